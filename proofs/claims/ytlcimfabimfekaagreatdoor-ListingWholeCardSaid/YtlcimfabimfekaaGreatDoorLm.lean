/-
  The law ListingWhole: its walk.
-/
import Derived.Test.YtlcimfabimfekaaGreatDoorLl
namespace Go.Proofs.YtlcimfabimfekaaGreatDoor
open Go.RowKit

def dataS (v : Nat) : ByteArray := (⟨#[100, 97, 116, 97, 47, 120]⟩ : ByteArray) ++ decB v
theorem ver_data (v : Nat) : verR (dataS v).data.toList = none := by
  unfold verR
  rw [if_neg]
  rintro ⟨h, _⟩
  have h2 : ((dataS v).data.toList.take 4)[0]? = some 100 := by simp [dataS]
  rw [h] at h2
  cases h2
theorem data_size (v : Nat) : (dataS v).size ≤ 26 := by
  have := decB_size v
  unfold dataS
  rw [ByteArray.size_append]
  show 6 + _ ≤ _
  omega
/-- The keys after so many rounds, and the versions among them. -/
def keysW (k c : Nat) (b : Bool) : Nat → List ByteArray
  | 0 => []
  | i + 1 => keysW k c b i ++ (if b = true ∧ k - 1 - i < c then [] else [keyS ((k - 1 - i : Nat) : Int) false, dataS (k - 1 - i)])
def verW (k c : Nat) (b : Bool) : Nat → List Nat
  | 0 => []
  | i + 1 => verW k c b i ++ (if b = true ∧ k - 1 - i < c then [] else [k - 1 - i])
theorem verW_mem {k c : Nat} {b : Bool} : ∀ {i v : Nat}, i ≤ k → (v ∈ verW k c b i ↔ v < k ∧ k - i ≤ v ∧ ¬(b = true ∧ v < c))
  | 0, v, _ => ⟨fun h => by simp [verW] at h, fun h => by omega⟩
  | i + 1, v, hi => by
    rw [verW, List.mem_append, verW_mem (by omega)]
    by_cases h : b = true ∧ k - 1 - i < c
    · rw [if_pos h]
      constructor
      · rintro (⟨h1, h2, h3⟩ | h1)
        · exact ⟨h1, by omega, h3⟩
        · simp at h1
      · rintro ⟨h1, h2, h3⟩
        refine .inl ⟨h1, ?_, h3⟩
        by_cases e : v = k - 1 - i
        · exact absurd ⟨h.1, by omega⟩ h3
        · omega
    · rw [if_neg h]
      constructor
      · rintro (⟨h1, h2, h3⟩ | h1)
        · exact ⟨h1, by omega, h3⟩
        · simp at h1
          subst h1
          exact ⟨by omega, by omega, h⟩
      · rintro ⟨h1, h2, h3⟩
        by_cases e : v = k - 1 - i
        · exact .inr (by simp [e])
        · exact .inl ⟨h1, by omega, h3⟩
theorem keysW_vers {k c : Nat} {b : Bool} (hk : k ≤ 1000) : ∀ i, versL false (keysW k c b i) = verW k c b i ∧ versL true (keysW k c b i) = [] ∧ (keysW k c b i).length ≤ 2 * i ∧ ∀ s ∈ keysW k c b i, s.size ≤ 26
  | 0 => ⟨rfl, rfl, Nat.le_refl _, fun s h => by simp [keysW] at h⟩
  | i + 1 => by
    obtain ⟨h1, h2, h3, h4⟩ := keysW_vers (c := c) (b := b) hk i
    rw [keysW, verW, vers_app, vers_app, h1, h2, List.length_append]
    by_cases h : b = true ∧ k - 1 - i < c
    · rw [if_pos h, if_pos h]
      exact ⟨by simp [versL], by simp [versL], by simp; omega, fun s hs => h4 s (by simpa using hs)⟩
    · rw [if_neg h, if_neg h]
      have e : verR (keyS ((k - 1 - i : Nat) : Int) false).data.toList = some (k - 1 - i, false) := by
        rw [key_zero (by omega), ofL_list]; exact verR_key (by omega)
      refine ⟨by simp [versL, e, ver_data], by simp [versL, e, ver_data], by simp; omega, fun s hs => ?_⟩
      rcases List.mem_append.1 hs with h5 | h5
      · exact h4 s h5
      · simp at h5
        rcases h5 with rfl | rfl
        · exact Nat.le_trans (key_size (by omega) false) (by decide)
        · exact data_size _
theorem w_top {k c : Nat} {b : Bool} (hc : c < k) : topR (verW k c b k) [c] = (k : Int) - 1 := by
  have : topL (verW k c b k) = (k : Int) - 1 := by
    refine top_eq (by omega) (fun v hv => ?_) (.inr ⟨k - 1, (verW_mem (Nat.le_refl _)).2 ⟨by omega, by omega, by omega⟩, by omega⟩)
    have := ((verW_mem (Nat.le_refl _)).1 hv).1
    omega
  unfold topR
  rw [this]
  show max _ (max (c : Int) (-1)) = _
  omega
theorem w_whole {k c : Nat} {b : Bool} {v : Int} (hv : v < k) : wholeL (verW k c b k) c v = true :=
  wholeL_iff.2 fun x h1 h2 => ⟨x.toNat, (verW_mem (Nat.le_refl _)).2 ⟨by omega, by omega, by omega⟩, by omega⟩
theorem w_floor {k c : Nat} {b : Bool} {v : Nat} (hv : v < k) : floorR (verW k c b k) [c] v = if c ≤ v then ((c : Int), true) else (-1, !b) := by
  by_cases h : c ≤ v
  · rw [if_pos h, floor_hit (c := c) (by simp) (by omega) (w_whole (by omega)) (fun x hx h1 _ => by simp at hx; omega)]
  · rw [if_neg h, floor_miss (fun x hx h1 => by simp at hx; omega)]
    congr 1
    cases b with
    | false =>
      rw [Bool.not_false, wholeL_iff]
      exact fun x h1 h2 => ⟨x.toNat, (verW_mem (Nat.le_refl _)).2 ⟨by omega, by omega, by simp⟩, by omega⟩
    | true =>
      cases e : wholeL (verW k c true k) (-1) v with
      | false => rfl
      | true =>
        obtain ⟨y, hy, hye⟩ := wholeL_iff.1 e v (by omega) (Int.le_refl _)
        have := ((verW_mem (Nat.le_refl _)).1 hy).2.2
        exact absurd ⟨rfl, by omega⟩ this
theorem w_latest {k c : Nat} {b : Bool} (hc : c < k) : latestR (verW k c b k) [c] = ((k : Int) - 1, 0) := by
  unfold latestR
  have e := w_floor (k := k) (c := c) (b := b) (v := k - 1) (by omega)
  rw [show ((k - 1 : Nat) : Int) = (k : Int) - 1 by omega, if_pos (by omega)] at e
  rw [w_top hc, if_neg (by omega), e, if_pos rfl]
theorem w_from {k c : Nat} {b : Bool} {v : Nat} (hc : c < k) (hv : v < k) : fromR (verW k c b k) [c] v = if c ≤ v then ((c : Int), 0) else if b then (0, 2201) else (-1, 0) := by
  unfold fromR
  rw [if_neg (by omega), w_top hc, if_neg (by omega), w_floor hv]
  by_cases h : c ≤ v
  · simp [h]
  · rw [if_neg h, if_neg h]
    cases b <;> rfl
theorem w_none {k c : Nat} {b : Bool} (hc : c < k) : fromR (verW k c b k) [c] (k : Int) = (0, 2202) := by
  unfold fromR
  rw [if_neg (by omega), w_top hc, if_pos (by omega)]
theorem w_form (C K : List Nat) : fromR C K (-1) = (0, 2200) := rfl

theorem keys_in2 {w : World} {base n c : Nat} {A : Option Addr} {KS : List ByteArray} {T : ByteArray} (h : Own w base 9 1 (.slice A n c) (strCells KS ++ strCells [T])) (hs : ∀ s ∈ KS, s.size ≤ 26) (hT : T.size ≤ 20) (hl : KS.length ≤ 1000) : KeysIn w (KS ++ [T]) A := by
  rw [← strApp] at h
  refine ⟨h.sl (str_fit _).len, by simp; omega, fun s hm => ?_⟩
  rcases List.mem_append.1 hm with h1 | h1
  · exact Nat.le_trans (hs s h1) (by decide)
  · simp at h1; subst h1; exact Nat.le_trans hT (by decide)

set_option maxRecDepth 100000 in
set_option maxHeartbeats 16000000 in
theorem lwhole_any (x y : Int) (b : Bool) (w : World) (_hx : -9223372036854775808 ≤ x ∧ x ≤ 9223372036854775807) (_hy : -9223372036854775808 ≤ y ∧ y ≤ 9223372036854775807) (ht : Tab w) :
    Calls Tryz.prog 6 #[.int .i64 x, .int .i64 y, .bool b] w fun e w' => e = .returned (.bool true) ∧ Step w w' := by
  have AW := hide (fun w' [Fut w w'] => awake22_any w' ht)
  obtain ⟨k, hk, hk1, hk32⟩ : ∃ k : Nat, wrap64 (1 + bits BinOp.and IntKind.i64 x 31) = (k : Int) ∧ 1 ≤ k ∧ k ≤ 32 := by
    refine ⟨(1 + x % 32).toNat, ?_, by omega, by omega⟩
    rw [i64_and31, wrap64]
    omega
  have e3 : IntKind.u64.wrap (k : Int) = (k : Int) := by rw [IntKind.wrap_u64]; omega
  have hk0 : ¬ (k : Int) = 0 := by omega
  obtain ⟨c, hc, hck⟩ := rem_nat _ (u64_nn y) k (by omega) (by omega)
  have HB := hide (⟨hk1, hk32, hck⟩ : 1 ≤ k ∧ k ≤ 32 ∧ c < k)
  clear hk1 hk32 hck _hx _hy
  go_enter Tryz.func6, Tryz.ntmps6
  go_upto_region 6 with (go_at_call 7; (with_reducible refine (AW.out _).mono ?_); rintro e w1 ⟨rfl, hs1⟩)
  rw [hk, hc]
  clear hk e3 hk0 hc
  obtain ⟨hk1, hk32, hck⟩ := HB.out
  go_wp2_with fail
  have hz1 := hs1.size
  have PK := hide (fun (v : Nat) w' (h : v ≤ 2147483647) [Fut w w'] => (show Calls Tryz.prog 8 #[.int .i64 (v : Int)] w' fun e w'' => e = .returned (.tuple #[.string (keyS (v : Int) false), .int .i64 0]) ∧ Step w' w'' by
    have := pkey_any (v : Int) w' (by omega) ht
    rw [keyE_good (by omega)] at this
    exact this))
  have PC := hide (fun (v : Nat) w' (h : v ≤ 2147483647) [Fut w w'] => (show Calls Tryz.prog 9 #[.int .i64 (v : Int)] w' fun e w'' => e = .returned (.tuple #[.string (keyS (v : Int) true), .int .i64 0]) ∧ Step w' w'' by
    have := pcheck_any (v : Int) w' (by omega) ht
    rw [keyE_good (by omega)] at this
    exact this))
  have PD := hide (fun (v : Nat) w' (h : v ≤ 2147483647) => decimal_any v (by omega) w')
  go_loopw [9, 10, 11, 12] (fun s i _ _ wr => ∃ (j : Nat) (J : Int) (A2 : Option Addr) (n2 c2 : Nat), J + 1 + j = k ∧ -1 ≤ J ∧ i = .int .i64 J ∧ s = .slice A2 n2 c2 ∧ Hid (n2 = (keysW k c b j).length) ∧ Own wr w1.heap.size 9 1 (.slice A2 n2 c2) (strCells (keysW k c b j)) ∧ Step w1 wr) (fun _ i _ _ _ => (intOf i + 1).toNat)
  case atStart => exact ⟨0, (k : Int) - 1, none, 0, 0, by omega, by omega, by go_num, rfl, rfl, Own.nil_ _ _ _ _, Step.of⟩
  case round =>
    obtain ⟨j, J, A2, n2, c2, hJ, hJ1, rfl, rfl, HN, hown, hst⟩ := hrel
    have HO := hide hown; clear hown
    obtain ⟨wo, rfl⟩ : ∃ x : World, x = wr := ⟨_, rfl⟩
    have hzo := hst.size
    have hKV := keysW_vers (k := k) (c := c) (b := b) (by omega) j
    have hnk : n2 ≤ 64 := by have := HN.out; have := hKV.2.2.1; omega
    by_cases hlt : 0 ≤ J
    · obtain ⟨v, rfl⟩ : ∃ v : Nat, J = v := ⟨J.toNat, by omega⟩
      have hv : k - 1 - j = v := by omega
      have hvk : v < k := by omega
      by_cases hsk : b = true ∧ v < c
      · have HN2 : Hid (n2 = (keysW k c b (j + 1)).length) := by show _ = _; rw [keysW, hv, if_pos hsk, List.append_nil]; exact HN.out
        have HO2 : Hid (Own wo w1.heap.size 9 1 (.slice A2 n2 c2) (strCells (keysW k c b (j + 1)))) := by show Own _ _ _ _ _ _; rw [keysW, hv, if_pos hsk, List.append_nil]; exact HO.out
        obtain ⟨rfl, hvc⟩ := hsk
        have hvc2 : (v : Int) < (c : Int) := by omega
        clear hv hKV
        go_wp2_with fail
        go_roundw
        case rel => exact ⟨j + 1, (v : Int) - 1, A2, n2, c2, by omega, by omega, by go_num, rfl, HN2, HO2.out, hst⟩
        case measure => simp [intOf]
      · have PKj := hide (fun w' [Fut w w'] => PK.out v w' (by omega))
        have PDj := fun w' => PD.out v w' (by omega)
        have hds := decB_size v
        obtain ⟨DV, hDV⟩ : ∃ x, decB v = x := ⟨_, rfl⟩
        have HKS : Hid (keysW k c b (j + 1) = keysW k c b j ++ [keyS (v : Int) false, dataS v]) := by show _ = _; rw [keysW, hv, if_neg hsk]
        have hbv : b = false ∨ (b = true ∧ ¬ (v : Int) < (c : Int)) := by
          cases b with
          | false => exact .inl rfl
          | true => exact .inr ⟨rfl, fun h => hsk ⟨rfl, by omega⟩⟩
        have HLX : Hid ((strCells (keysW k c b j)).length = n2) := by show _ = _; rw [str_len]; exact HN.out.symm
        obtain ⟨T, hT⟩ : ∃ T, keyS (v : Int) false = T := ⟨_, rfl⟩
        obtain ⟨D, hD⟩ : ∃ D, dataS v = D := ⟨_, rfl⟩
        have hD2 : (⟨#[100, 97, 116, 97, 47, 120]⟩ : ByteArray) ++ DV = D := by rw [← hDV]; exact hD
        rw [hT] at PKj
        rw [hDV] at PDj hds
        rw [hT, hD] at HKS
        have PDj := hide PDj
        have HD2 := hide hD2
        clear hT hD hDV hsk hv hKV hD2
        rcases hbv with rfl | ⟨rfl, hvc⟩
        all_goals
          go_wp2_with (first
            | (go_at_call 8; (with_reducible refine (PKj.out _).mono ?_); rintro e w2 ⟨rfl, hs2⟩)
            | (go_at_call 10; refine (num_any _ _).mono ?_; rintro e w' ⟨rfl, rfl⟩)
            | (go_at_call 19; (with_reducible refine (PDj.out _).mono ?_); rintro e w3 ⟨rfl, hs3⟩)
            | (at_builtin; rw [HD2.out]; have HOW := hide ((HO.out.fut (w' := w3)).alloc (.cells #[.string T, .string D] 9)); have HNew := hide (SlAt.strs2 (w := w3) rfl T D); go_loud (refine wpList_append_sl rfl (.tmp 55) (.tmp 60) 31 rfl eiStr (base := w1.heap.size) (xs := strCells (keysW k c _ j)) rfl HOW.out (str_fit _) (ys := strCells [T, D]) rfl (by simp [strCells]) HNew.out (str_fit [T, D]) (by rw [HLX.out]; show (n2 + 2) * 16 ≤ _; omega) (fut w1 (w3.alloc (.cells #[.string T, .string D] 9))).size (N := n2 + 2) (by rw [HLX.out]; rfl) ?_; intro A7 c7 w7 hq1 hq2 hown7 hgr7 hbel7; have H7 := hide hown7; have hs7 : Step w1 w7 := ⟨(fut w1 (w3.alloc (.cells #[.string T, .string D] 9))).trans hbel7⟩; clear hown7 hgr7 hbel7)))
          go_roundw
          case rel =>
            refine ⟨j + 1, (v : Int) - 1, A7, n2 + 2, c7, by omega, by omega, by go_num, rfl, ?_, ?_, hs7⟩
            · show _ = _; rw [HKS.out, List.length_append, ← HN.out]; rfl
            · rw [HKS.out, strApp]; exact H7.out
          case measure => simp [intOf]
    · obtain rfl : j = k := by omega
      obtain rfl : J = -1 := by omega
      obtain ⟨v0, v1, hl3, hsz⟩ := hKV
      obtain ⟨KS, hKS⟩ : ∃ KS, keysW j c b j = KS := ⟨_, rfl⟩
      rw [hKS] at HO HN v0 v1 hl3 hsz
      have hln : KS.length = n2 := HN.out.symm
      have hln2 : (strCells KS).length = n2 := by rw [str_len]; exact hln
      have PCc := hide (fun w' [Fut w w'] => PC.out c w' (by omega))
      obtain ⟨T, hT⟩ : ∃ T, keyS (c : Int) true = T := ⟨_, rfl⟩
      have hTs : T.size ≤ 20 := by rw [← hT]; exact key_size (by omega) true
      have u0 : versL false (KS ++ [T]) = verW j c b j := by
        rw [vers_app, v0, ← hT, show [keyS (c : Int) true] = keysOf [c] true from rfl, vers_keys (fun v hv => by simp at hv; omega), if_neg (by decide), List.append_nil]
      have u1 : versL true (KS ++ [T]) = [c] := by
        rw [vers_app, v1, ← hT, show [keyS (c : Int) true] = keysOf [c] true from rfl, vers_keys (fun v hv => by simp at hv; omega), if_pos rfl, List.nil_append]
      have L2 := fun (W : World) (A : Option Addr) (cp : Nat) (hK : KeysIn W (KS ++ [T]) A) w' [Fut W w'] => platest_any (KS ++ [T]) A cp w' hK (by simp; omega)
      rw [u0, u1, List.length_append, hln, w_latest hck] at L2
      simp only [List.length_cons, List.length_nil, Nat.zero_add] at L2
      have F2 := fun (W : World) (A : Option Addr) (cp : Nat) (v : Int) (hK : KeysIn W (KS ++ [T]) A) w' [Fut W w'] => pfrom_any (KS ++ [T]) A cp v w' hK (by simp; omega)
      rw [u0, u1, List.length_append, hln] at F2
      simp only [List.length_cons, List.length_nil, Nat.zero_add] at F2
      have HLS := hide hsz; have HLN := hide hln; have HLX := hide hln2
      rw [hT] at PCc
      have L2 := hide L2; have F2 := hide F2
      have HNK := hide hnk
      clear v0 v1 u0 u1 hT hKS hsz hln hln2 hl3 HN
      go_wp2_with (first
        | (go_at_call 9; (with_reducible refine (PCc.out _).mono ?_); rintro e w3 ⟨rfl, hs3⟩)
        | (at_builtin; have HOW := hide ((HO.out.fut (w' := w3)).alloc (.cells #[.string T] 9)); have HNew := hide (SlAt.strs1 (w := w3) rfl T); go_loud (refine wpList_append_sl rfl (.tmp 67) (.tmp 69) 31 rfl eiStr (base := w1.heap.size) (xs := strCells KS) rfl HOW.out (str_fit _) (ys := strCells [T]) rfl (by simp [strCells]) HNew.out (str_fit [T]) (by rw [HLX.out]; show (n2 + 1) * 16 ≤ _; omega) (fut w1 (w3.alloc (.cells #[.string T] 9))).size (N := n2 + 1) (by rw [HLX.out]; rfl) ?_; intro A7 c7 w7 hq1 hq2 hown7 hgr7 hbel7; have hs7 : Step w w7 := ⟨((fut w (w3.alloc (.cells #[.string T] 9))).trans (hbel7.mono hz1))⟩; have K7 := hide (keys_in2 hown7 HLS.out hTs (by rw [HLN.out]; omega)); clear hown7 hgr7 hbel7))
        | (go_at_call 12; (with_reducible refine (L2.out _ _ _ K7.out _).mono ?_); rintro e w8 ⟨rfl, hs8⟩)
        | (go_at_call 10; refine (num_any _ _).mono ?_; rintro e w' ⟨rfl, rfl⟩))
      go_loopw [17, 18, 19, 101, 113, 118] (fun i _ _ _ _ _ wr => ∃ v : Nat, v ≤ j ∧ i = .int .i64 v ∧ Step w7 wr) (fun i _ _ _ _ _ _ => j - (intOf i).toNat)
      case atStart => exact ⟨0, Nat.zero_le _, rfl, Step.of⟩
      case round =>
        obtain ⟨v, hv, rfl, hst2⟩ := hrel
        obtain ⟨wp, rfl⟩ : ∃ x : World, x = wr := ⟨_, rfl⟩
        by_cases hlv : v < j
        · have hvj : (v : Int) < (j : Int) := by omega
          have FV := fun w' [Fut w7 w'] => F2.out w7 A7 c7 (v : Int) K7.out w'
          rw [w_from hck hlv] at FV
          by_cases hcv : c ≤ v
          · rw [if_pos hcv] at FV
            have FV := hide FV
            have hcv2 : (v : Int) ≥ (c : Int) := by omega
            clear hcv
            go_wp2_with (first | (go_at_call 15; (with_reducible refine (FV.out _).mono ?_); rintro e w9 ⟨rfl, hs9⟩) | (go_at_call 10; refine (num_any _ _).mono ?_; rintro e w' ⟨rfl, rfl⟩))
            go_roundw
            case rel => exact ⟨v + 1, by omega, by go_num, Step.of⟩
            case measure => simp [intOf]; omega
          · rw [if_neg hcv] at FV
            have hcv2 : ¬ (v : Int) ≥ (c : Int) := by omega
            clear hcv
            cases b
            all_goals
              simp only [Bool.false_eq_true, if_false, if_true] at FV
              have FV := hide FV
              go_wp2_with (first | (go_at_call 15; (with_reducible refine (FV.out _).mono ?_); rintro e w9 ⟨rfl, hs9⟩) | (go_at_call 10; refine (num_any _ _).mono ?_; rintro e w' ⟨rfl, rfl⟩))
              go_roundw
              case rel => exact ⟨v + 1, by omega, by go_num, Step.of⟩
              case measure => simp [intOf]; omega
        · obtain rfl : v = j := by omega
          have FA := fun w' [Fut w7 w'] => F2.out w7 A7 c7 (v : Int) K7.out w'
          have FB := fun w' [Fut w7 w'] => F2.out w7 A7 c7 (-1) K7.out w'
          rw [w_none hck] at FA
          rw [w_form] at FB
          have FA := hide FA; have FB := hide FB
          go_wp2_with (first | (go_at_call 15; (with_reducible refine (FA.out _).mono ?_); rintro e w9 ⟨rfl, hs9⟩) | (go_at_call 15; (with_reducible refine (FB.out _).mono ?_); rintro e w10 ⟨rfl, hs10⟩) | (go_at_call 10; refine (num_any _ _).mono ?_; rintro e w' ⟨rfl, rfl⟩))
          go_ret
          exact ⟨rfl, Step.of⟩
end Go.Proofs.YtlcimfabimfekaaGreatDoor
