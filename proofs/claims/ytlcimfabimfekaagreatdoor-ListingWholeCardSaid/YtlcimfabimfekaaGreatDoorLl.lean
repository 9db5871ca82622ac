/-
  The law ListingGaps: its walk.
-/
import Derived.Test.YtlcimfabimfekaaGreatDoorLk
namespace Go.Proofs.YtlcimfabimfekaaGreatDoor
open Go.RowKit

theorem i64_and15 (n : Int) : bits .and .i64 n 15 = n % 16 := by
  have h15 : (BitVec.ofInt 64 15).toNat = 2 ^ 4 - 1 := by decide
  have key : (BitVec.ofInt 64 n &&& BitVec.ofInt 64 15).toNat = (n % ((2 ^ 64 : Nat) : Int)).toNat % 2 ^ 4 := by
    rw [BitVec.toNat_and, BitVec.toNat_ofInt, h15, Nat.and_two_pow_sub_one_eq_mod]
  show IntKind.i64.wrap ((BitVec.ofInt 64 n &&& BitVec.ofInt 64 15).toNat : Nat) = n % 16
  rw [key, IntKind.wrap_i64]
  omega
theorem i64_and31 (n : Int) : bits .and .i64 n 31 = n % 32 := by
  have h31 : (BitVec.ofInt 64 31).toNat = 2 ^ 5 - 1 := by decide
  have key : (BitVec.ofInt 64 n &&& BitVec.ofInt 64 31).toNat = (n % ((2 ^ 64 : Nat) : Int)).toNat % 2 ^ 5 := by
    rw [BitVec.toNat_and, BitVec.toNat_ofInt, h31, Nat.and_two_pow_sub_one_eq_mod]
  show IntKind.i64.wrap ((BitVec.ofInt 64 n &&& BitVec.ofInt 64 31).toNat : Nat) = n % 32
  rw [key, IntKind.wrap_i64]
  omega
theorem u64_nn (x : Int) : 0 ≤ IntKind.u64.wrap x := by simp [IntKind.wrap, IntKind.bits, IntKind.signed]; omega
theorem rem_nat (x : Int) (h0 : 0 ≤ x) (k : Nat) (hk : 0 < k) (hk2 : k ≤ 4398046511102) : ∃ a : Nat, wrap64 (x.tmod (k : Int)) = (a : Int) ∧ a < k := by
  have h1 : x.tmod (k : Int) = x % (k : Int) := Int.tmod_eq_emod_of_nonneg h0
  have h2 := Int.emod_nonneg x (show (k : Int) ≠ 0 by omega)
  have h3 := Int.emod_lt_of_pos x (show (0 : Int) < (k : Int) by omega)
  refine ⟨(x % (k : Int)).toNat, ?_, by omega⟩
  rw [h1, wrap64]
  omega
def keysOf (l : List Nat) (c : Bool) : List ByteArray := l.map fun v : Nat => keyS (v : Int) c
theorem vers_keys {b c : Bool} : ∀ {l : List Nat}, (∀ v ∈ l, v ≤ 2147483647) → versL b (keysOf l c) = if c = b then l else []
  | [], _ => by cases c <;> cases b <;> rfl
  | v :: r, h => by
    have ih := vers_keys (b := b) (c := c) (l := r) fun x hx => h x (List.mem_cons_of_mem _ hx)
    have hv := h v List.mem_cons_self
    unfold versL keysOf at ih ⊢
    rw [List.map_cons, List.filterMap_cons, ih]
    have e : verR (keyS (v : Int) c).data.toList = some (v, c) := by rw [key_zero hv, ofL_list]; exact verR_key hv
    rw [e]
    by_cases hc : c = b
    · simp [hc]
    · simp [hc]
theorem vers_app (b : Bool) (x y : List ByteArray) : versL b (x ++ y) = versL b x ++ versL b y := List.filterMap_append ..
/-- The first numbers, but for one. -/
def gapL (k g : Nat) : List Nat := (List.range k).filter fun v => !(v == g)
theorem gap_mem {k g v : Nat} : v ∈ gapL k g ↔ v < k ∧ v ≠ g := by simp [gapL]
theorem gap_succ_ne {k g : Nat} (h : k ≠ g) : gapL (k + 1) g = gapL k g ++ [k] := by
  unfold gapL
  rw [List.range_succ, List.filter_append]
  congr 1
  simp [h]
theorem gap_succ_eq (g : Nat) : gapL (g + 1) g = gapL g g := by
  unfold gapL
  rw [List.range_succ, List.filter_append]
  simp
theorem gap_len (k g : Nat) : (gapL k g).length ≤ k := Nat.le_trans (List.length_filter_le ..) (by simp)
theorem gap_top {k g : Nat} (h : g + 2 ≤ k) : topL (gapL k g) = (k : Int) - 1 := by
  refine top_eq (by omega) (fun c hc => ?_) (.inr ⟨k - 1, gap_mem.2 ⟨by omega, by omega⟩, by omega⟩)
  have := (gap_mem.1 hc).1
  omega
theorem gap_not {k g : Nat} {lo t : Int} (h1 : lo < (g : Int)) (h2 : (g : Int) ≤ t) : wholeL (gapL k g) lo t = false := by
  cases e : wholeL (gapL k g) lo t with
  | false => rfl
  | true =>
    obtain ⟨c, hc, hce⟩ := wholeL_iff.1 e g h1 h2
    have := (gap_mem.1 hc).2
    omega
theorem gap_one {k g : Nat} (h : g + 2 ≤ k) : latestR (gapL k g) [] = (0, 2201) := by
  have ht : topR (gapL k g) [] = (k : Int) - 1 := by unfold topR; rw [gap_top h]; show max _ (-1) = _; omega
  unfold latestR
  rw [ht, if_neg (by omega), floor_miss (fun x hx => by cases hx), gap_not (by omega) (by omega)]
  rfl
theorem gap_two {k g c : Nat} (h : g + 2 ≤ k) (hc : c < k) : latestR (gapL k g) [c] = if g ≤ c then ((k : Int) - 1, 0) else (0, 2201) := by
  have ht : topR (gapL k g) [c] = (k : Int) - 1 := by unfold topR; rw [gap_top h]; show max _ (max (c : Int) (-1)) = _; omega
  unfold latestR
  rw [ht, if_neg (by omega)]
  by_cases hg : g ≤ c
  · rw [floor_hit (c := c) (by simp) (by omega) (wholeL_iff.2 fun v h1 h2 => ⟨v.toNat, gap_mem.2 ⟨by omega, by omega⟩, by omega⟩) (fun x hx h1 _ => by simp at hx; omega), if_pos hg]
    rfl
  · rw [floor_miss (fun x hx _ => by simp at hx; subst hx; exact gap_not (by omega) (by omega)), gap_not (by omega) (by omega), if_neg hg]
    rfl
theorem strApp (a b : List ByteArray) : strCells (a ++ b) = strCells a ++ strCells b := by simp [strCells]
theorem str_len (a : List ByteArray) : (strCells a).length = a.length := by simp [strCells]
theorem keysOf_len (l : List Nat) (c : Bool) : (keysOf l c).length = l.length := by simp [keysOf]
theorem key_size {v : Nat} (h : v ≤ 2147483647) (c : Bool) : (keyS (v : Int) c).size ≤ 20 := by
  rw [key_zero h, ofL_size, keyL_len]
  split <;> omega

theorem keys_in {w : World} {base n c : Nat} {A : Option Addr} {KS : List ByteArray} {T : ByteArray} (h : Own w base 9 1 (.slice A n c) (strCells KS ++ strCells [T])) (hs : ∀ s ∈ KS, s.size ≤ 20) (hT : T.size ≤ 20) (hl : KS.length ≤ 1000) : KeysIn w (KS ++ [T]) A := by
  rw [← strApp] at h
  refine ⟨h.sl (str_fit _).len, by simp; omega, fun s hm => ?_⟩
  rcases List.mem_append.1 hm with h1 | h1
  · exact Nat.le_trans (hs s h1) (by decide)
  · simp at h1; subst h1; exact Nat.le_trans hT (by decide)

set_option maxRecDepth 100000 in
set_option maxHeartbeats 16000000 in
theorem lgaps_any (x y z : Int) (w : World) (_hx : -9223372036854775808 ≤ x ∧ x ≤ 9223372036854775807) (_hy : -9223372036854775808 ≤ y ∧ y ≤ 9223372036854775807) (_hz : -9223372036854775808 ≤ z ∧ z ≤ 9223372036854775807) (ht : Tab w) :
    Calls Tryz.prog 4 #[.int .i64 x, .int .i64 y, .int .i64 z] w fun e w' => e = .returned (.bool true) ∧ Step w w' := by
  have AW := hide (fun w' [Fut w w'] => awake22_any w' ht)
  obtain ⟨k, hk, hk2, hk17⟩ : ∃ k : Nat, wrap64 (2 + bits BinOp.and IntKind.i64 x 15) = (k : Int) ∧ 2 ≤ k ∧ k ≤ 17 := by
    refine ⟨(2 + x % 16).toNat, ?_, by omega, by omega⟩
    rw [i64_and15, wrap64]
    omega
  obtain ⟨q, hq⟩ : ∃ q : Nat, q + 1 = k := ⟨k - 1, by omega⟩
  have e1 : wrap64 ((k : Int) - 1) = (q : Int) := by rw [wrap64]; omega
  have e2 : IntKind.u64.wrap (q : Int) = (q : Int) := by rw [IntKind.wrap_u64]; omega
  have e3 : IntKind.u64.wrap (k : Int) = (k : Int) := by rw [IntKind.wrap_u64]; omega
  have hq0 : ¬ (q : Int) = 0 := by omega
  have hk0 : ¬ (k : Int) = 0 := by omega
  obtain ⟨g, hg, hgq⟩ := rem_nat _ (u64_nn y) q (by omega) (by omega)
  obtain ⟨c, hc, hck⟩ := rem_nat _ (u64_nn z) k (by omega) (by omega)
  have HB := hide (⟨hk2, hk17, hq, hgq, hck⟩ : 2 ≤ k ∧ k ≤ 17 ∧ q + 1 = k ∧ g < q ∧ c < k)
  clear hk2 hk17 hq hgq hck _hx _hy _hz
  go_enter Tryz.func4, Tryz.ntmps4
  go_wp2_with (go_at_call 7; (with_reducible refine (AW.out _).mono ?_); rintro e w1 ⟨rfl, hs1⟩)
  rw [hk, hg, hc]
  clear hk e1 e2 e3 hq0 hk0 hg hc
  obtain ⟨hk2, hk17, hq, hgq, hck⟩ := HB.out
  have hz1 := hs1.size
  have hgk : g + 2 ≤ k := by omega
  have G1 := hide (gap_one hgk); have G2 := hide (gap_two hgk hck)
  have PK := hide (fun (v : Nat) w' (h : v ≤ 2147483647) [Fut w w'] => (show Calls Tryz.prog 8 #[.int .i64 (v : Int)] w' fun e w'' => e = .returned (.tuple #[.string (keyS (v : Int) false), .int .i64 0]) ∧ Step w' w'' by
    have := pkey_any (v : Int) w' (by omega) ht
    rw [keyE_good (by omega)] at this
    exact this))
  have PC := hide (fun (v : Nat) w' (h : v ≤ 2147483647) [Fut w w'] => (show Calls Tryz.prog 9 #[.int .i64 (v : Int)] w' fun e w'' => e = .returned (.tuple #[.string (keyS (v : Int) true), .int .i64 0]) ∧ Step w' w'' by
    have := pcheck_any (v : Int) w' (by omega) ht
    rw [keyE_good (by omega)] at this
    exact this))
  go_loopw [10, 11, 12, 13] (fun s i _ _ wr => ∃ (j : Nat) (A2 : Option Addr) (n2 c2 : Nat), j ≤ k ∧ i = .int .i64 j ∧ s = .slice A2 n2 c2 ∧ Hid (n2 = (gapL j g).length) ∧ Own wr w1.heap.size 9 1 (.slice A2 n2 c2) (strCells (keysOf (gapL j g) false)) ∧ Step w1 wr) (fun _ i _ _ _ => k - (intOf i).toNat)
  case atStart => exact ⟨0, none, 0, 0, Nat.zero_le _, rfl, rfl, rfl, Own.nil_ _ _ _ _, Step.of⟩
  case round =>
    obtain ⟨j, A2, n2, c2, hj, rfl, rfl, HN, hown, hst⟩ := hrel
    have HO := hide hown; clear hown
    obtain ⟨wo, rfl⟩ : ∃ x : World, x = wr := ⟨_, rfl⟩
    have hzo := hst.size
    by_cases hlt : j < k
    · have hjk : (j : Int) < (k : Int) := by omega
      by_cases hjg : j = g
      · have hjb : ((j : Int) != (g : Int)) = false := by rw [hjg]; simp
        have HN2 : Hid (n2 = (gapL (j + 1) g).length) := by show _ = _; rw [show gapL (j + 1) g = gapL j g by rw [hjg]; exact gap_succ_eq g]; exact HN.out
        have HO2 : Hid (Own wo w1.heap.size 9 1 (.slice A2 n2 c2) (strCells (keysOf (gapL (j + 1) g) false))) := by show Own _ _ _ _ _ _; rw [show gapL (j + 1) g = gapL j g by rw [hjg]; exact gap_succ_eq g]; exact HO.out
        clear hjg
        go_wp2_with fail
        go_roundw
        case rel => exact ⟨j + 1, A2, n2, c2, by omega, by go_num, rfl, HN2, HO2.out, hst⟩
        case measure => simp [intOf]; omega
      · have hjb : ((j : Int) != (g : Int)) = true := bne_iff_ne.2 (by omega)
        have PKj := hide (fun w' [Fut w w'] => PK.out j w' (by omega))
        have HGS := hide (gap_succ_ne hjg)
        have hnk : n2 ≤ k := by have := HN.out; have := gap_len j g; omega
        have HLX : Hid ((strCells (keysOf (gapL j g) false)).length = n2) := by show _ = _; rw [str_len, keysOf_len]; exact HN.out.symm
        obtain ⟨T, hT⟩ : ∃ T, keyS (j : Int) false = T := ⟨_, rfl⟩
        rw [hT] at PKj
        have HT := hide hT
        clear hjg hT
        go_wp2_with (first
          | (go_at_call 8; (with_reducible refine (PKj.out _).mono ?_); rintro e w2 ⟨rfl, hs2⟩)
          | (at_builtin; have HOW := hide ((HO.out.fut (w' := w2)).alloc (.cells #[.string T] 9)); have HNew := hide (SlAt.strs1 (w := w2) rfl T); go_loud (refine wpList_append_sl rfl (.tmp 51) (.tmp 53) 31 rfl eiStr (base := w1.heap.size) (xs := strCells (keysOf (gapL j g) false)) rfl HOW.out (str_fit _) (ys := strCells [T]) rfl (by simp [strCells]) HNew.out (str_fit [T]) (by rw [HLX.out]; show (n2 + 1) * 16 ≤ _; omega) (fut w1 (w2.alloc (.cells #[.string T] 9))).size (N := n2 + 1) (by rw [HLX.out]; rfl) ?_; intro A7 c7 w7 hq1 hq2 hown7 hgr7 hbel7; have H7 := hide hown7; have hs7 : Step w1 w7 := ⟨(fut w1 (w2.alloc (.cells #[.string T] 9))).trans hbel7⟩; clear hown7 hgr7 hbel7)))
        go_roundw
        case rel =>
          refine ⟨j + 1, A7, n2 + 1, c7, by omega, by go_num, rfl, ?_, ?_, hs7⟩
          · show _ = _; rw [HGS.out, List.length_append, ← HN.out]; rfl
          · rw [HGS.out, keysOf, List.map_append, strApp]
            have := H7.out
            rw [← HT.out] at this
            exact this
        case measure => simp [intOf]; omega
    · obtain rfl : j = k := by omega
      have hnk : n2 ≤ j := by have := HN.out; have := gap_len j g; omega
      obtain ⟨KS, hKS⟩ : ∃ KS, keysOf (gapL j g) false = KS := ⟨_, rfl⟩
      have hsz : ∀ s ∈ KS, s.size ≤ 20 := by
        rw [← hKS]
        intro s hs
        obtain ⟨v, hv, rfl⟩ := List.mem_map.1 hs
        exact key_size (by have := (gap_mem.1 hv).1; omega) false
      have hln : KS.length = n2 := by rw [← hKS, keysOf_len]; exact HN.out.symm
      have v0 : versL false KS = gapL j g := by rw [← hKS, vers_keys (fun v hv => by have := (gap_mem.1 hv).1; omega), if_pos rfl]
      have v1 : versL true KS = [] := by rw [← hKS, vers_keys (fun v hv => by have := (gap_mem.1 hv).1; omega), if_neg (by decide)]
      rw [hKS] at HO
      have hln2 : (strCells KS).length = n2 := by rw [str_len]; exact hln
      have HK1 : Hid (KeysIn wo KS A2) := ⟨HO.out.sl (str_fit _).len, by omega, fun s hs => Nat.le_trans (hsz s hs) (by decide)⟩
      have L1 := fun w' [Fut wo w'] => platest_any KS A2 c2 w' HK1.out (by omega)
      rw [v0, v1, hln, G1.out] at L1
      have L1 := hide L1
      have PCc := hide (fun w' [Fut w w'] => PC.out c w' (by omega))
      obtain ⟨T, hT⟩ : ∃ T, keyS (c : Int) true = T := ⟨_, rfl⟩
      have hTs : T.size ≤ 20 := by rw [← hT]; exact key_size (by omega) true
      have u0 : versL false (KS ++ [T]) = gapL j g := by
        rw [vers_app, v0, ← hT, show [keyS (c : Int) true] = keysOf [c] true from rfl, vers_keys (fun v hv => by simp at hv; omega), if_neg (by decide), List.append_nil]
      have u1 : versL true (KS ++ [T]) = [c] := by
        rw [vers_app, v1, ← hT, show [keyS (c : Int) true] = keysOf [c] true from rfl, vers_keys (fun v hv => by simp at hv; omega), if_pos rfl, List.nil_append]
      have L2 := fun (W : World) (A : Option Addr) (cp : Nat) (hK : KeysIn W (KS ++ [T]) A) w' [Fut W w'] => platest_any (KS ++ [T]) A cp w' hK (by simp; omega)
      rw [u0, u1, List.length_append, hln, G2.out] at L2
      simp only [List.length_cons, List.length_nil, Nat.zero_add] at L2
      have HLS := hide hsz; have HLN := hide hln; have HLX := hide hln2
      rw [hT] at PCc
      clear v0 v1 u0 u1 hT hKS hsz hln hln2
      by_cases hcg : g ≤ c
      · rw [if_pos hcg] at L2
        have L2 := hide L2
        have hcb : ((c : Int) ≥ (g : Int)) := by omega
        clear hcg
        go_wp2_with (first
          | (go_at_call 12; (with_reducible refine (L1.out _).mono ?_); rintro e w2 ⟨rfl, hs2⟩)
          | (go_at_call 9; (with_reducible refine (PCc.out _).mono ?_); rintro e w3 ⟨rfl, hs3⟩)
          | (at_builtin; have HOW := hide ((HO.out.fut (w' := w3)).alloc (.cells #[.string T] 9)); have HNew := hide (SlAt.strs1 (w := w3) rfl T); go_loud (refine wpList_append_sl rfl (.tmp 65) (.tmp 67) 31 rfl eiStr (base := w1.heap.size) (xs := strCells KS) rfl HOW.out (str_fit _) (ys := strCells [T]) rfl (by simp [strCells]) HNew.out (str_fit [T]) (by rw [HLX.out]; show (n2 + 1) * 16 ≤ _; omega) (fut w1 (w3.alloc (.cells #[.string T] 9))).size (N := n2 + 1) (by rw [HLX.out]; rfl) ?_; intro A7 c7 w7 hq1 hq2 hown7 hgr7 hbel7; have hs7 : Step w w7 := ⟨((fut w (w3.alloc (.cells #[.string T] 9))).trans (hbel7.mono hz1))⟩; have K7 := hide (keys_in hown7 HLS.out hTs (by rw [HLN.out]; omega)); clear hown7 hgr7 hbel7))
          | (go_at_call 12; (with_reducible refine (L2.out _ _ _ K7.out _).mono ?_); rintro e w8 ⟨rfl, hs8⟩)
          | (go_at_call 10; refine (num_any _ _).mono ?_; rintro e w' ⟨rfl, rfl⟩))
        go_ret
        exact ⟨rfl, Step.of⟩
      · rw [if_neg hcg] at L2
        have L2 := hide L2
        have hcb : ¬ ((c : Int) ≥ (g : Int)) := by omega
        clear hcg
        go_wp2_with (first
          | (go_at_call 12; (with_reducible refine (L1.out _).mono ?_); rintro e w2 ⟨rfl, hs2⟩)
          | (go_at_call 9; (with_reducible refine (PCc.out _).mono ?_); rintro e w3 ⟨rfl, hs3⟩)
          | (at_builtin; have HOW := hide ((HO.out.fut (w' := w3)).alloc (.cells #[.string T] 9)); have HNew := hide (SlAt.strs1 (w := w3) rfl T); go_loud (refine wpList_append_sl rfl (.tmp 65) (.tmp 67) 31 rfl eiStr (base := w1.heap.size) (xs := strCells KS) rfl HOW.out (str_fit _) (ys := strCells [T]) rfl (by simp [strCells]) HNew.out (str_fit [T]) (by rw [HLX.out]; show (n2 + 1) * 16 ≤ _; omega) (fut w1 (w3.alloc (.cells #[.string T] 9))).size (N := n2 + 1) (by rw [HLX.out]; rfl) ?_; intro A7 c7 w7 hq1 hq2 hown7 hgr7 hbel7; have hs7 : Step w w7 := ⟨((fut w (w3.alloc (.cells #[.string T] 9))).trans (hbel7.mono hz1))⟩; have K7 := hide (keys_in hown7 HLS.out hTs (by rw [HLN.out]; omega)); clear hown7 hgr7 hbel7))
          | (go_at_call 12; (with_reducible refine (L2.out _ _ _ K7.out _).mono ?_); rintro e w8 ⟨rfl, hs8⟩)
          | (go_at_call 10; refine (num_any _ _).mono ?_; rintro e w' ⟨rfl, rfl⟩))
        go_ret
        exact ⟨rfl, Step.of⟩
end Go.Proofs.YtlcimfabimfekaaGreatDoor
