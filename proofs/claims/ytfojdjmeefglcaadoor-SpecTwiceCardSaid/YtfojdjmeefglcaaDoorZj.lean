/-
  Plain: what was truncated, truncated again, is itself, and not above it.
-/
import Derived.Test.YtfojdjmeefglcaaDoorZa
import Derived.Test.YtfojdjmeefglcaaDoorZg
import Derived.Test.YtfojdjmeefglcaaDoorCm
namespace Go.Proofs.YtfojdjmeefglcaaDoor
open Go.RowKit

theorem nextB_ext {s : ByteArray} {p j : Nat} (hp : p ≤ s.size) : nextB (s.extract 0 p) j = if j < p then nextB s j else -1 := by
  have hs : (s.extract 0 p).size = p := by simp; omega
  unfold nextB
  split
  · rename_i h
    have hj : j < p := by omega
    have hj2 : j < s.size := by omega
    have e : (s.extract 0 p)[j] = s[j] := by rw [ByteArray.getElem_extract]; simp
    rw [if_pos hj, dif_pos hj2, e]
  · rw [if_neg (by omega)]
theorem runeC_dep {c a b d a' b' d' : Int} (h0 : 0 < (runeC c a b d).2) (ha : 2 ≤ (runeC c a b d).2 → a' = a) (hb : 3 ≤ (runeC c a b d).2 → b' = b) (hd : 4 ≤ (runeC c a b d).2 → d' = d) : runeC c a' b' d' = runeC c a b d := by
  by_cases h1 : c < 128
  · rw [runeC, runeC, if_pos h1, if_pos h1]
  by_cases h2 : c < 194 ∨ 244 < c
  · rw [runeC, if_neg h1, if_pos h2] at h0; simp at h0
  by_cases h3 : c < 224 ∧ 0 ≤ a
  · have e : runeC c a b d = ((c - 192) * 64 + a, 2) := by rw [runeC, if_neg h1, if_neg h2, if_pos h3]
    rw [e] at ha ⊢
    have := ha (by simp)
    subst this
    rw [runeC, if_neg h1, if_neg h2, if_pos h3]
  by_cases h4 : 224 ≤ c ∧ c < 240 ∧ 0 ≤ a ∧ 0 ≤ b
  · have e : runeC c a b d = if 2048 ≤ (c - 224) * 4096 + a * 64 + b ∧ ((c - 224) * 4096 + a * 64 + b < 55296 ∨ 57343 < (c - 224) * 4096 + a * 64 + b) then ((c - 224) * 4096 + a * 64 + b, 3) else (0, 0) := by rw [runeC, if_neg h1, if_neg h2, if_neg h3, if_pos h4]
    rw [e] at h0 ha hb ⊢
    split at h0
    · rename_i h5
      rw [if_pos h5] at ha hb ⊢
      have e1 := ha (by simp)
      have e2 := hb (by simp)
      subst e1 e2
      rw [runeC, if_neg h1, if_neg h2, if_neg (by omega), if_pos h4, if_pos h5]
    · simp at h0
  by_cases h6 : 240 ≤ c ∧ 0 ≤ a ∧ 0 ≤ b ∧ 0 ≤ d
  · have e : runeC c a b d = if 65536 ≤ (c - 240) * 262144 + a * 4096 + b * 64 + d ∧ (c - 240) * 262144 + a * 4096 + b * 64 + d ≤ 1114111 then ((c - 240) * 262144 + a * 4096 + b * 64 + d, 4) else (0, 0) := by rw [runeC, if_neg h1, if_neg h2, if_neg h3, if_neg h4, if_pos h6]
    rw [e] at h0 ha hb hd ⊢
    split at h0
    · rename_i h5
      rw [if_pos h5] at ha hb hd ⊢
      have e1 := ha (by simp)
      have e2 := hb (by simp)
      have e3 := hd (by simp)
      subst e1 e2 e3
      rw [runeC, if_neg h1, if_neg h2, if_neg (by omega), if_neg (by omega), if_pos h6, if_pos h5]
    · simp at h0
  · rw [runeC, if_neg h1, if_neg h2, if_neg h3, if_neg h4, if_neg h6] at h0; simp at h0
theorem rune_ext {s : ByteArray} {p i : Nat} (hp : p ≤ s.size) (hi : i < p) (h0 : 0 < (runeT s i).2) (hn : i + (runeT s i).2.toNat ≤ p) : runeT (s.extract 0 p) i = runeT s i := by
  have hs : (s.extract 0 p).size = p := by simp; omega
  have hi2 : i < s.size := by omega
  have e : (s.extract 0 p)[i]'(by omega) = s[i] := by rw [ByteArray.getElem_extract]; simp
  rw [runeT_at (s := s) hi2] at h0 hn
  rw [runeT_at (s := s) hi2, runeT_at (s := s.extract 0 p) (by omega), e, nextB_ext hp, nextB_ext hp, nextB_ext hp]
  refine runeC_dep h0 (fun h => ?_) (fun h => ?_) (fun h => ?_)
  · rw [if_pos (by omega)]
  · rw [if_pos (by omega)]
  · rw [if_pos (by omega)]
theorem rune_ext2 {s : ByteArray} {p i : Nat} (hp : p ≤ s.size) (hi : i < p) (h0 : 0 < (runeT (s.extract 0 p) i).2) : runeT s i = runeT (s.extract 0 p) i := by
  have hs : (s.extract 0 p).size = p := by simp; omega
  have hi2 : i < s.size := by omega
  have e : (s.extract 0 p)[i]'(by omega) = s[i] := by rw [ByteArray.getElem_extract]; simp
  have hb := (runeT_bd (s.extract 0 p) i).2.2 h0
  rw [hs] at hb
  rw [runeT_at (s := s.extract 0 p) (by omega)] at h0 hb
  rw [runeT_at (s := s) hi2, runeT_at (s := s.extract 0 p) (by omega)]
  rw [e] at h0 hb ⊢
  refine runeC_dep h0 (fun h => ?_) (fun h => ?_) (fun h => ?_)
  · rw [nextB_ext hp, if_pos (by omega)]
  · rw [nextB_ext hp, if_pos (by omega)]
  · rw [nextB_ext hp, if_pos (by omega)]
theorem preN_ge : ∀ (m : Nat) (s : ByteArray) (i : Nat), i ≤ preN m s i
  | 0, _, i => Nat.le_refl i
  | m + 1, s, i => by
    unfold preN
    split
    · exact Nat.le_trans (Nat.le_add_right _ _) (preN_ge m s _)
    · exact Nat.le_refl i
theorem preN_ext : ∀ (m : Nat) (s : ByteArray) (i p : Nat), preN m s i = p → p ≤ s.size → preN m (s.extract 0 p) i = p
  | 0, _, i, p, h, _ => h
  | m + 1, s, i, p, h, hp => by
    have hs : (s.extract 0 p).size = p := by simp; omega
    unfold preN at h ⊢
    rw [hs]
    by_cases hi : i < s.size
    · rw [if_pos hi] at h
      have hge := preN_ge m s (i + (max (runeT s i).2 1).toNat)
      rw [h] at hge
      obtain ⟨b0, b1, _⟩ := runeT_bd s i
      have hip : i < p := by omega
      rw [if_pos hip]
      have he : (max (runeT (s.extract 0 p) i).2 1) = max (runeT s i).2 1 := by
        by_cases h0 : 0 < (runeT s i).2
        · rw [rune_ext hp hip h0 (by omega)]
        · by_cases h1 : 0 < (runeT (s.extract 0 p) i).2
          · have := rune_ext2 hp hip h1
            rw [this] at h0
            exact absurd h1 h0
          · have := (runeT_bd (s.extract 0 p) i).1
            omega
      rw [he]
      exact preN_ext m s _ p h hp
    · rw [if_neg hi] at h
      rw [if_neg (by omega)]
      exact h
theorem firstT_twice (s : ByteArray) (k : Int) : firstT (firstT s k) k = firstT s k := by
  unfold firstT
  have hp := preN_le k.toNat s 0 (Nat.zero_le _)
  rw [preN_ext k.toNat s 0 _ rfl hp]
  generalize preN k.toNat s 0 = p at hp
  apply ByteArray.ext
  simp only [ByteArray.data_extract, Array.extract_extract]
  congr 1
  omega
theorem floorT_twice {x k : Int} (h : floorT x k ≠ -9223372036854775808) : floorT (floorT x k) k = floorT x k := by
  unfold floorT at h ⊢
  split at h
  · exact absurd rfl h
  · rename_i hc
    rw [if_neg hc]
    have e : (x - x % k) % k = 0 := by
      have := Int.emod_emod_of_dvd x (Int.dvd_refl k)
      rw [Int.sub_emod, this, Int.sub_self, Int.zero_emod]
    rw [e, if_neg (by omega)]
    omega
theorem floorT_le {x k : Int} (hk : 1 ≤ k) (hx : -9223372036854775808 ≤ x) : floorT x k ≤ x ∧ -9223372036854775808 ≤ floorT x k := by
  have h1 := Int.emod_nonneg x (show k ≠ 0 by omega)
  unfold floorT
  split <;> omega
theorem less_take : ∀ (l : List UInt8) (p : Nat), Op.bytesLess l (l.take p) = false
  | [], p => by simp [Op.bytesLess]
  | x :: r, 0 => rfl
  | x :: r, p + 1 => by
    rw [List.take_succ_cons, Op.bytesLess, less_take r p]
    simp
theorem strLt_first (s : ByteArray) (k : Int) : strLt s (firstT s k) = false := by
  unfold strLt firstT
  rw [ByteArray.toList_eq, ByteArray.toList_eq]
  have : (s.extract 0 (preN k.toNat s 0)).data.toList = s.data.toList.take (preN k.toNat s 0) := by simp
  rw [this]
  exact less_take _ _

theorem cmp_le {a b : Val} (h : lessV b a = false) : cmpV a b ≤ 0 := by
  unfold cmpV
  split
  · decide
  · rw [h]; decide
theorem param1 {k : Int} (h1 : 1 ≤ k) (h2 : k ≤ 1024) : paramB ⟨0, 1, k⟩ = true := by simp [paramB]; omega
theorem param2 {k : Int} (h1 : 1 ≤ k) (h2 : k ≤ 1024) : paramB ⟨0, 2, k⟩ = true := by simp [paramB]; omega
set_option maxRecDepth 100000 in
set_option maxHeartbeats 8000000 in
theorem twice_zero (v : Val) (p : Int) (w : World) (hvv : FineV v) (hn : ¬ (v.kind = 1 ∨ v.kind = 2 ∨ v.kind = 3)) : Calls Tryd.prog 11 #[.agg #[.int .i64 v.kind, .int .i64 v.i, .bool v.b, .string v.s], .int .i64 p] w fun e w' => e = .returned (.bool true) ∧ Step w w' := by
  have hv := hvv
  obtain ⟨X, hX⟩ : ∃ X : Nat, IntKind.u64.wrap p = X := ⟨(IntKind.u64.wrap p).toNat, by have : 0 ≤ IntKind.u64.wrap p := by (simp [IntKind.wrap, IntKind.bits, IntKind.signed]; omega)
                                                                                        omega⟩
  obtain ⟨k, hk⟩ : ∃ k : Int, 1 + (X : Int) % 1024 = k := ⟨_, rfl⟩
  have hk1 : 1 ≤ k := by omega
  have hk2 : k ≤ 1024 := by omega
  have HP1 := hide (param1 hk1 hk2); have HP2 := hide (param2 hk1 hk2)
  obtain ⟨W, hW⟩ : ∃ W, W = w.alloc (.cells #[.int .i64 v.kind, .int .i64 v.i, .bool v.b, .string v.s] 73) := ⟨_, rfl⟩
  have SW : Step w W := by rw [hW]; exact Step.of
  have HV : Hid (Blk W w.heap.size 73 [.int .i64 v.kind, .int .i64 v.i, .bool v.b, .string v.s]) := by rw [hW]; exact Blk.new w [.int .i64 v.kind, .int .i64 v.i, .bool v.b, .string v.s] 73
  have HW := hide hW
  have hzW := SW.size
  clear hW
  have cl := fun w' => vclean_any v w'
  rw [show clean v = ⟨0, 0, false, ⟨#[]⟩⟩ by unfold clean; rw [if_neg (by omega), if_neg (by omega), if_neg (by omega)]; rfl] at cl
  unfold Val.val at cl
  have CL := hide cl
  clear cl
  have HXF : FineV ⟨0, 0, false, ⟨#[]⟩⟩ := ⟨Nat.zero_le _, by decide, by decide⟩
  clear hn hvv
  have a1 := fun w' => papply_any ⟨0, 1, k⟩ ⟨0, 0, false, ⟨#[]⟩⟩ w' HXF.1 HXF.2.1 HXF.2.2
  have a2 := fun w' => papply_any ⟨0, 2, k⟩ ⟨0, 0, false, ⟨#[]⟩⟩ w' HXF.1 HXF.2.1 HXF.2.2
  rw [show applyR ⟨0, 1, k⟩ ⟨0, 0, false, ⟨#[]⟩⟩ = ((⟨0, 0, false, ⟨#[]⟩⟩ : Val), (0 : Int)) by exact applyR_same HP1.out (.inl rfl)] at a1
  rw [show applyR ⟨0, 2, k⟩ ⟨0, 0, false, ⟨#[]⟩⟩ = ((⟨0, 0, false, ⟨#[]⟩⟩ : Val), (0 : Int)) by exact applyR_same HP2.out (.inl rfl)] at a2
  have a3 := a2
  have hcm : cmpV ⟨0, 0, false, ⟨#[]⟩⟩ ⟨0, 0, false, ⟨#[]⟩⟩ ≤ 0 := cmp_le (lessV_zero rfl rfl)
  unfold Val.val at a1 a2 a3
  try unfold Val.zero at a1
  try unfold Val.zero at a2
  try unfold Val.zero at a3
  have A1 := hide a1; have A2 := hide a2; have A3 := hide a3
  clear a1 a2 a3
  have CM := hide (fun w' => rcmp_any ⟨0, 0, false, ⟨#[]⟩⟩ ⟨0, 0, false, ⟨#[]⟩⟩ w' (by exact Nat.zero_le _) (by exact Nat.zero_le _))
  obtain ⟨cq, hcq⟩ : ∃ cq, cmpV ⟨0, 0, false, ⟨#[]⟩⟩ ⟨0, 0, false, ⟨#[]⟩⟩ = cq := ⟨_, rfl⟩
  rw [hcq] at CM hcm
  unfold Val.val at CM
  have hcd : decide (cq ≤ 0) = true := decide_eq_true hcm
  clear hcq
  go_enter Tryd.func11, Tryd.ntmps11
  go_upto_region 6 with (first
    | (go_at_call 47; refine (awake13_any _).mono ?_; rintro e w1 ⟨rfl, hs1⟩; rw [← HW.out] at hs1; have h_ := HV.out.fut (w' := w1); obtain ⟨v0, v1, v2, v3⟩ := At.z4 h_.at0; have lv := h_.lt; clear h_)
    | (go_at_call 44; (with_reducible refine (CL.out _).mono ?_); rintro e w2 ⟨rfl, hs2⟩; have HX := hide (Blk.new w2 [.int .i64 0, .int .i64 0, .bool false, .string ⟨#[]⟩] 73))
    | (go_at_call 45; (with_reducible refine (A1.out _).mono ?_); rintro e w3 ⟨rfl, hs3⟩; clear v0 v1 v2 v3 lv; have h_ := HX.out.fut (w' := w3); obtain ⟨x0, x1, x2, x3⟩ := At.z4 h_.at0; have lx := h_.lt; clear h_))
  have HF := hide (Blk.new_at (w := w3.alloc (.cells #[.int .i64 0, .int .i64 0, .bool false, .string ⟨#[]⟩] 73)) (b := w3.heap.size + 1) (by simp) [.int .i64 0, .int .i64 2, .int .i64 k] 78)
  go_upto_region 10 with (first
    | (go_at_call 22; refine (num_any _ _).mono ?_; rintro e w' ⟨rfl, rfl⟩)
    | (go_at_call 45; (with_reducible refine (A2.out _).mono ?_); rintro e w4 ⟨rfl, hs4⟩; clear x0 x1 x2 x3 lx; have h_ := HX.out.fut (w' := w4); obtain ⟨x0, x1, x2, x3⟩ := At.z4 h_.at0; have lx := h_.lt; clear h_; have h_ := HF.out.fut (w' := w4); obtain ⟨f0, f1, f2⟩ := At.z3 h_.at0; have lf := h_.lt; clear h_; have HT := hide (Blk.new w4 [.int .i64 0, .int .i64 0, .bool false, .string ⟨#[]⟩] 73)))
  go_wp2_with (first
    | (go_at_call 22; refine (num_any _ _).mono ?_; rintro e w' ⟨rfl, rfl⟩)
    | (go_at_call 45; (with_reducible refine (A3.out _).mono ?_); rintro e w5 ⟨rfl, hs5⟩; clear x0 x1 x2 x3 lx f0 f1 f2 lf; have h_ := HX.out.fut (w' := w5); obtain ⟨x0, x1, x2, x3⟩ := At.z4 h_.at0; have lx := h_.lt; clear h_; have h_ := HT.out.fut (w' := w5); obtain ⟨t0, t1, t2, t3⟩ := At.z4 h_.at0; have lt_ := h_.lt; clear h_)
    | (go_at_call 48; (with_reducible refine (CM.out _).mono ?_); rintro e w6 ⟨rfl, hs6⟩))
  go_ret
  exact ⟨rfl, Step.of⟩
set_option maxRecDepth 100000 in
set_option maxHeartbeats 8000000 in
theorem twice_one (v : Val) (p : Int) (w : World) (hvv : FineV v) (hn : v.kind = 1) : Calls Tryd.prog 11 #[.agg #[.int .i64 v.kind, .int .i64 v.i, .bool v.b, .string v.s], .int .i64 p] w fun e w' => e = .returned (.bool true) ∧ Step w w' := by
  have hv := hvv
  obtain ⟨X, hX⟩ : ∃ X : Nat, IntKind.u64.wrap p = X := ⟨(IntKind.u64.wrap p).toNat, by have : 0 ≤ IntKind.u64.wrap p := by (simp [IntKind.wrap, IntKind.bits, IntKind.signed]; omega)
                                                                                        omega⟩
  obtain ⟨k, hk⟩ : ∃ k : Int, 1 + (X : Int) % 1024 = k := ⟨_, rfl⟩
  have hk1 : 1 ≤ k := by omega
  have hk2 : k ≤ 1024 := by omega
  have HP1 := hide (param1 hk1 hk2); have HP2 := hide (param2 hk1 hk2)
  obtain ⟨W, hW⟩ : ∃ W, W = w.alloc (.cells #[.int .i64 v.kind, .int .i64 v.i, .bool v.b, .string v.s] 73) := ⟨_, rfl⟩
  have SW : Step w W := by rw [hW]; exact Step.of
  have HV : Hid (Blk W w.heap.size 73 [.int .i64 v.kind, .int .i64 v.i, .bool v.b, .string v.s]) := by rw [hW]; exact Blk.new w [.int .i64 v.kind, .int .i64 v.i, .bool v.b, .string v.s] 73
  have HW := hide hW
  have hzW := SW.size
  clear hW
  have cl := fun w' => vclean_any v w'
  rw [show clean v = ⟨1, v.i, false, ⟨#[]⟩⟩ by simp [clean, hn]; rfl] at cl
  unfold Val.val at cl
  have CL := hide cl
  clear cl
  have HXF : FineV ⟨1, v.i, false, ⟨#[]⟩⟩ := ⟨Nat.zero_le _, hv.2.1, hv.2.2⟩
  clear hn hvv
  have a1 := fun w' => papply_any ⟨0, 1, k⟩ ⟨1, v.i, false, ⟨#[]⟩⟩ w' HXF.1 HXF.2.1 HXF.2.2
  have a2 := fun w' => papply_any ⟨0, 2, k⟩ ⟨1, v.i, false, ⟨#[]⟩⟩ w' HXF.1 HXF.2.1 HXF.2.2
  obtain ⟨bq, hbq, hb0, hb1⟩ : ∃ bq : Int, applyR ⟨0, 1, k⟩ ⟨1, v.i, false, ⟨#[]⟩⟩ = (⟨1, bq, false, ⟨#[]⟩⟩, 0) ∧ 0 ≤ bq ∧ bq < k := ⟨_, applyR_bucket (f := ⟨0, 1, k⟩) HP1.out (by simp [kindV]) rfl, Int.emod_nonneg _ (by show k ≠ 0; omega), Int.emod_lt_of_pos _ (by show 0 < k; omega)⟩
  rw [hbq] at a1
  clear hbq
  obtain ⟨tq, htq⟩ : ∃ tq, floorT v.i k = tq := ⟨_, rfl⟩
  have hle := floorT_le hk1 hv.2.1
  have htw := floorT_twice (x := v.i) (k := k)
  rw [htq] at hle htw
  rw [show applyR ⟨0, 2, k⟩ ⟨1, v.i, false, ⟨#[]⟩⟩ = (⟨1, tq, false, ⟨#[]⟩⟩, 0) by rw [applyR_int (f := ⟨0, 2, k⟩) HP2.out (by simp [kindV]) (show (2 : Int) ≠ 1 by decide) (by simp [kindV])]; show ((⟨1, floorT v.i k, false, ⟨#[]⟩⟩ : Val), (0 : Int)) = _; rw [htq]] at a2
  have a3 := fun w' => papply_any ⟨0, 2, k⟩ ⟨1, tq, false, ⟨#[]⟩⟩ w' (Nat.zero_le _) hle.2 (Int.le_trans hle.1 hv.2.2)
  obtain ⟨uq, huq⟩ : ∃ uq, floorT tq k = uq := ⟨_, rfl⟩
  rw [huq] at htw
  rw [show applyR ⟨0, 2, k⟩ ⟨1, tq, false, ⟨#[]⟩⟩ = (⟨1, uq, false, ⟨#[]⟩⟩, 0) by rw [applyR_int (f := ⟨0, 2, k⟩) HP2.out (by simp [kindV]) (show (2 : Int) ≠ 1 by decide) (by simp [kindV])]; show ((⟨1, floorT tq k, false, ⟨#[]⟩⟩ : Val), (0 : Int)) = _; rw [huq]] at a3
  have HTW := hide htw
  have hcm : cmpV ⟨1, tq, false, ⟨#[]⟩⟩ ⟨1, v.i, false, ⟨#[]⟩⟩ ≤ 0 := cmp_le (by rw [lessV_one (by simp [kindV]) (by simp [kindV])]; simp; omega)
  clear htq huq htw
  unfold Val.val at a1 a2 a3
  try unfold Val.zero at a1
  try unfold Val.zero at a2
  have A1 := hide a1; have A2 := hide a2; have A3 := hide a3
  clear a1 a2 a3
  have CM := hide (fun w' => rcmp_any ⟨1, tq, false, ⟨#[]⟩⟩ ⟨1, v.i, false, ⟨#[]⟩⟩ w' (by exact Nat.zero_le _) (by exact Nat.zero_le _))
  obtain ⟨cq, hcq⟩ : ∃ cq, cmpV ⟨1, tq, false, ⟨#[]⟩⟩ ⟨1, v.i, false, ⟨#[]⟩⟩ = cq := ⟨_, rfl⟩
  rw [hcq] at CM hcm
  unfold Val.val at CM
  have hcd : decide (cq ≤ 0) = true := decide_eq_true hcm
  clear hcq
  go_enter Tryd.func11, Tryd.ntmps11
  go_upto_region 6 with (first
    | (go_at_call 47; refine (awake13_any _).mono ?_; rintro e w1 ⟨rfl, hs1⟩; rw [← HW.out] at hs1; have h_ := HV.out.fut (w' := w1); obtain ⟨v0, v1, v2, v3⟩ := At.z4 h_.at0; have lv := h_.lt; clear h_)
    | (go_at_call 44; (with_reducible refine (CL.out _).mono ?_); rintro e w2 ⟨rfl, hs2⟩; have HX := hide (Blk.new w2 [.int .i64 1, .int .i64 v.i, .bool false, .string ⟨#[]⟩] 73))
    | (go_at_call 45; (with_reducible refine (A1.out _).mono ?_); rintro e w3 ⟨rfl, hs3⟩; clear v0 v1 v2 v3 lv; have h_ := HX.out.fut (w' := w3); obtain ⟨x0, x1, x2, x3⟩ := At.z4 h_.at0; have lx := h_.lt; clear h_))
  have HF := hide (Blk.new_at (w := w3.alloc (.cells #[.int .i64 1, .int .i64 bq, .bool false, .string ⟨#[]⟩] 73)) (b := w3.heap.size + 1) (by simp) [.int .i64 0, .int .i64 2, .int .i64 k] 78)
  go_upto_region 10 with (first
    | (go_at_call 22; refine (num_any _ _).mono ?_; rintro e w' ⟨rfl, rfl⟩)
    | (go_at_call 45; (with_reducible refine (A2.out _).mono ?_); rintro e w4 ⟨rfl, hs4⟩; clear x0 x1 x2 x3 lx; have h_ := HX.out.fut (w' := w4); obtain ⟨x0, x1, x2, x3⟩ := At.z4 h_.at0; have lx := h_.lt; clear h_; have h_ := HF.out.fut (w' := w4); obtain ⟨f0, f1, f2⟩ := At.z3 h_.at0; have lf := h_.lt; clear h_; have HT := hide (Blk.new w4 [.int .i64 1, .int .i64 tq, .bool false, .string ⟨#[]⟩] 73)))
  by_cases hsm : tq = -9223372036854775808
  · have hsb : (tq == -9223372036854775808) = true := by rw [hsm]; rfl
    clear hsm
    by_cases hue : uq = tq
    · have hub : (uq == tq) = true := by rw [hue]; simp
      clear hue
      go_wp2_with (first
        | (go_at_call 22; refine (num_any _ _).mono ?_; rintro e w' ⟨rfl, rfl⟩)
        | (go_at_call 45; (with_reducible refine (A3.out _).mono ?_); rintro e w5 ⟨rfl, hs5⟩; clear x0 x1 x2 x3 lx f0 f1 f2 lf; have h_ := HX.out.fut (w' := w5); obtain ⟨x0, x1, x2, x3⟩ := At.z4 h_.at0; have lx := h_.lt; clear h_; have h_ := HT.out.fut (w' := w5); obtain ⟨t0, t1, t2, t3⟩ := At.z4 h_.at0; have lt_ := h_.lt; clear h_)
        | (go_at_call 48; (with_reducible refine (CM.out _).mono ?_); rintro e w6 ⟨rfl, hs6⟩))
      go_ret
      exact ⟨rfl, Step.of⟩
    · have hub : (uq == tq) = false := by simpa using hue
      clear hue
      go_wp2_with (first
        | (go_at_call 22; refine (num_any _ _).mono ?_; rintro e w' ⟨rfl, rfl⟩)
        | (go_at_call 45; (with_reducible refine (A3.out _).mono ?_); rintro e w5 ⟨rfl, hs5⟩; clear x0 x1 x2 x3 lx f0 f1 f2 lf; have h_ := HX.out.fut (w' := w5); obtain ⟨x0, x1, x2, x3⟩ := At.z4 h_.at0; have lx := h_.lt; clear h_; have h_ := HT.out.fut (w' := w5); obtain ⟨t0, t1, t2, t3⟩ := At.z4 h_.at0; have lt_ := h_.lt; clear h_)
        | (go_at_call 48; (with_reducible refine (CM.out _).mono ?_); rintro e w6 ⟨rfl, hs6⟩))
      go_ret
      exact ⟨rfl, Step.of⟩
  · have hsb : (tq == -9223372036854775808) = false := by simpa using hsm
    have hue : uq = tq := HTW.out hsm
    have hub : (uq == tq) = true := by rw [hue]; simp
    clear hsm hue
    go_wp2_with (first
      | (go_at_call 22; refine (num_any _ _).mono ?_; rintro e w' ⟨rfl, rfl⟩)
      | (go_at_call 45; (with_reducible refine (A3.out _).mono ?_); rintro e w5 ⟨rfl, hs5⟩; clear x0 x1 x2 x3 lx f0 f1 f2 lf; have h_ := HX.out.fut (w' := w5); obtain ⟨x0, x1, x2, x3⟩ := At.z4 h_.at0; have lx := h_.lt; clear h_; have h_ := HT.out.fut (w' := w5); obtain ⟨t0, t1, t2, t3⟩ := At.z4 h_.at0; have lt_ := h_.lt; clear h_)
      | (go_at_call 48; (with_reducible refine (CM.out _).mono ?_); rintro e w6 ⟨rfl, hs6⟩))
    go_ret
    exact ⟨rfl, Step.of⟩
set_option maxRecDepth 100000 in
set_option maxHeartbeats 8000000 in
theorem twice_two (v : Val) (p : Int) (w : World) (hvv : FineV v) (hn : v.kind = 2) : Calls Tryd.prog 11 #[.agg #[.int .i64 v.kind, .int .i64 v.i, .bool v.b, .string v.s], .int .i64 p] w fun e w' => e = .returned (.bool true) ∧ Step w w' := by
  have hv := hvv
  obtain ⟨X, hX⟩ : ∃ X : Nat, IntKind.u64.wrap p = X := ⟨(IntKind.u64.wrap p).toNat, by have : 0 ≤ IntKind.u64.wrap p := by (simp [IntKind.wrap, IntKind.bits, IntKind.signed]; omega)
                                                                                        omega⟩
  obtain ⟨k, hk⟩ : ∃ k : Int, 1 + (X : Int) % 1024 = k := ⟨_, rfl⟩
  have hk1 : 1 ≤ k := by omega
  have hk2 : k ≤ 1024 := by omega
  have HP1 := hide (param1 hk1 hk2); have HP2 := hide (param2 hk1 hk2)
  obtain ⟨W, hW⟩ : ∃ W, W = w.alloc (.cells #[.int .i64 v.kind, .int .i64 v.i, .bool v.b, .string v.s] 73) := ⟨_, rfl⟩
  have SW : Step w W := by rw [hW]; exact Step.of
  have HV : Hid (Blk W w.heap.size 73 [.int .i64 v.kind, .int .i64 v.i, .bool v.b, .string v.s]) := by rw [hW]; exact Blk.new w [.int .i64 v.kind, .int .i64 v.i, .bool v.b, .string v.s] 73
  have HW := hide hW
  have hzW := SW.size
  clear hW
  have cl := fun w' => vclean_any v w'
  rw [show clean v = ⟨2, 0, v.b, ⟨#[]⟩⟩ by simp [clean, hn]; rfl] at cl
  unfold Val.val at cl
  have CL := hide cl
  clear cl
  have HXF : FineV ⟨2, 0, v.b, ⟨#[]⟩⟩ := ⟨Nat.zero_le _, show (-9223372036854775808 : Int) ≤ 0 by decide, show (0 : Int) ≤ 9223372036854775807 by decide⟩
  clear hn hvv
  have a1 := fun w' => papply_any ⟨0, 1, k⟩ ⟨2, 0, v.b, ⟨#[]⟩⟩ w' HXF.1 HXF.2.1 HXF.2.2
  have a2 := fun w' => papply_any ⟨0, 2, k⟩ ⟨2, 0, v.b, ⟨#[]⟩⟩ w' HXF.1 HXF.2.1 HXF.2.2
  obtain ⟨bq, hbq, hb0, hb1⟩ : ∃ bq : Int, applyR ⟨0, 1, k⟩ ⟨2, 0, v.b, ⟨#[]⟩⟩ = (⟨1, bq, false, ⟨#[]⟩⟩, 0) ∧ 0 ≤ bq ∧ bq < k := ⟨_, applyR_bucket (f := ⟨0, 1, k⟩) HP1.out (by simp [kindV]) rfl, Int.emod_nonneg _ (by show k ≠ 0; omega), Int.emod_lt_of_pos _ (by show 0 < k; omega)⟩
  rw [hbq] at a1
  clear hbq
  rw [show applyR ⟨0, 2, k⟩ ⟨2, 0, v.b, ⟨#[]⟩⟩ = ((⟨0, 0, false, ⟨#[]⟩⟩ : Val), (1300 : Int)) by exact applyR_bool (f := ⟨0, 2, k⟩) HP2.out (by simp [kindV]) (show (2 : Int) ≠ 1 by decide) (by simp [kindV])] at a2
  unfold Val.val at a1 a2
  try unfold Val.zero at a1
  try unfold Val.zero at a2
  have A1 := hide a1; have A2 := hide a2
  clear a1 a2
  go_enter Tryd.func11, Tryd.ntmps11
  go_upto_region 6 with (first
    | (go_at_call 47; refine (awake13_any _).mono ?_; rintro e w1 ⟨rfl, hs1⟩; rw [← HW.out] at hs1; have h_ := HV.out.fut (w' := w1); obtain ⟨v0, v1, v2, v3⟩ := At.z4 h_.at0; have lv := h_.lt; clear h_)
    | (go_at_call 44; (with_reducible refine (CL.out _).mono ?_); rintro e w2 ⟨rfl, hs2⟩; have HX := hide (Blk.new w2 [.int .i64 2, .int .i64 0, .bool v.b, .string ⟨#[]⟩] 73))
    | (go_at_call 45; (with_reducible refine (A1.out _).mono ?_); rintro e w3 ⟨rfl, hs3⟩; clear v0 v1 v2 v3 lv; have h_ := HX.out.fut (w' := w3); obtain ⟨x0, x1, x2, x3⟩ := At.z4 h_.at0; have lx := h_.lt; clear h_))
  have HF := hide (Blk.new_at (w := w3.alloc (.cells #[.int .i64 1, .int .i64 bq, .bool false, .string ⟨#[]⟩] 73)) (b := w3.heap.size + 1) (by simp) [.int .i64 0, .int .i64 2, .int .i64 k] 78)
  go_upto_region 10 with (first
    | (go_at_call 22; refine (num_any _ _).mono ?_; rintro e w' ⟨rfl, rfl⟩)
    | (go_at_call 45; (with_reducible refine (A2.out _).mono ?_); rintro e w4 ⟨rfl, hs4⟩; clear x0 x1 x2 x3 lx; have h_ := HX.out.fut (w' := w4); obtain ⟨x0, x1, x2, x3⟩ := At.z4 h_.at0; have lx := h_.lt; clear h_; have h_ := HF.out.fut (w' := w4); obtain ⟨f0, f1, f2⟩ := At.z3 h_.at0; have lf := h_.lt; clear h_; have HT := hide (Blk.new w4 [.int .i64 0, .int .i64 0, .bool false, .string ⟨#[]⟩] 73)))
  go_wp2_with (go_at_call 22; refine (num_any _ _).mono ?_; rintro e w' ⟨rfl, rfl⟩)
  go_ret
  exact ⟨rfl, Step.of⟩
set_option maxRecDepth 100000 in
set_option maxHeartbeats 8000000 in
theorem twice_three (v : Val) (p : Int) (w : World) (hvv : FineV v) (hn : v.kind = 3) : Calls Tryd.prog 11 #[.agg #[.int .i64 v.kind, .int .i64 v.i, .bool v.b, .string v.s], .int .i64 p] w fun e w' => e = .returned (.bool true) ∧ Step w w' := by
  have hv := hvv
  obtain ⟨X, hX⟩ : ∃ X : Nat, IntKind.u64.wrap p = X := ⟨(IntKind.u64.wrap p).toNat, by have : 0 ≤ IntKind.u64.wrap p := by (simp [IntKind.wrap, IntKind.bits, IntKind.signed]; omega)
                                                                                        omega⟩
  obtain ⟨k, hk⟩ : ∃ k : Int, 1 + (X : Int) % 1024 = k := ⟨_, rfl⟩
  have hk1 : 1 ≤ k := by omega
  have hk2 : k ≤ 1024 := by omega
  have HP1 := hide (param1 hk1 hk2); have HP2 := hide (param2 hk1 hk2)
  obtain ⟨W, hW⟩ : ∃ W, W = w.alloc (.cells #[.int .i64 v.kind, .int .i64 v.i, .bool v.b, .string v.s] 73) := ⟨_, rfl⟩
  have SW : Step w W := by rw [hW]; exact Step.of
  have HV : Hid (Blk W w.heap.size 73 [.int .i64 v.kind, .int .i64 v.i, .bool v.b, .string v.s]) := by rw [hW]; exact Blk.new w [.int .i64 v.kind, .int .i64 v.i, .bool v.b, .string v.s] 73
  have HW := hide hW
  have hzW := SW.size
  clear hW
  have cl := fun w' => vclean_any v w'
  rw [show clean v = ⟨3, 0, false, v.s⟩ by simp [clean, hn]] at cl
  unfold Val.val at cl
  have CL := hide cl
  clear cl
  have HXF : FineV ⟨3, 0, false, v.s⟩ := ⟨hv.1, show (-9223372036854775808 : Int) ≤ 0 by decide, show (0 : Int) ≤ 9223372036854775807 by decide⟩
  clear hn hvv
  have a1 := fun w' => papply_any ⟨0, 1, k⟩ ⟨3, 0, false, v.s⟩ w' HXF.1 HXF.2.1 HXF.2.2
  have a2 := fun w' => papply_any ⟨0, 2, k⟩ ⟨3, 0, false, v.s⟩ w' HXF.1 HXF.2.1 HXF.2.2
  obtain ⟨bq, hbq, hb0, hb1⟩ : ∃ bq : Int, applyR ⟨0, 1, k⟩ ⟨3, 0, false, v.s⟩ = (⟨1, bq, false, ⟨#[]⟩⟩, 0) ∧ 0 ≤ bq ∧ bq < k := ⟨_, applyR_bucket (f := ⟨0, 1, k⟩) HP1.out (by simp [kindV]) rfl, Int.emod_nonneg _ (by show k ≠ 0; omega), Int.emod_lt_of_pos _ (by show 0 < k; omega)⟩
  rw [hbq] at a1
  clear hbq
  obtain ⟨tq, htq⟩ : ∃ tq, firstT v.s k = tq := ⟨_, rfl⟩
  have hts : tq.size ≤ 9223372036854775000 := by rw [← htq, firstT]; simp; have := hv.1; omega
  have htw := firstT_twice v.s k
  have hlt := strLt_first v.s k
  rw [htq] at htw hlt
  rw [show applyR ⟨0, 2, k⟩ ⟨3, 0, false, v.s⟩ = (⟨3, 0, false, tq⟩, 0) by rw [applyR_text (f := ⟨0, 2, k⟩) HP2.out (by simp [kindV]) (show (2 : Int) ≠ 1 by decide) (by simp [kindV])]; show ((⟨3, 0, false, firstT v.s k⟩ : Val), (0 : Int)) = _; rw [htq]] at a2
  have a3 := fun w' => papply_any ⟨0, 2, k⟩ ⟨3, 0, false, tq⟩ w' hts (by show (-9223372036854775808 : Int) ≤ 0; decide) (by show (0 : Int) ≤ _; decide)
  rw [show applyR ⟨0, 2, k⟩ ⟨3, 0, false, tq⟩ = (⟨3, 0, false, tq⟩, 0) by rw [applyR_text (f := ⟨0, 2, k⟩) HP2.out (by simp [kindV]) (show (2 : Int) ≠ 1 by decide) (by simp [kindV])]; show ((⟨3, 0, false, firstT tq k⟩ : Val), (0 : Int)) = _; rw [htw]] at a3
  have hcm : cmpV ⟨3, 0, false, tq⟩ ⟨3, 0, false, v.s⟩ ≤ 0 := cmp_le (by rw [lessV_three (by simp [kindV]) (by simp [kindV])]; exact hlt)
  clear htq htw hlt
  unfold Val.val at a1 a2 a3
  try unfold Val.zero at a1
  try unfold Val.zero at a2
  have A1 := hide a1; have A2 := hide a2; have A3 := hide a3
  clear a1 a2 a3
  have CM := hide (fun w' => rcmp_any ⟨3, 0, false, tq⟩ ⟨3, 0, false, v.s⟩ w' (by exact Nat.le_trans hts (by decide)) (by exact Nat.le_trans hv.1 (by decide)))
  obtain ⟨cq, hcq⟩ : ∃ cq, cmpV ⟨3, 0, false, tq⟩ ⟨3, 0, false, v.s⟩ = cq := ⟨_, rfl⟩
  rw [hcq] at CM hcm
  unfold Val.val at CM
  have hcd : decide (cq ≤ 0) = true := decide_eq_true hcm
  clear hcq
  go_enter Tryd.func11, Tryd.ntmps11
  go_upto_region 6 with (first
    | (go_at_call 47; refine (awake13_any _).mono ?_; rintro e w1 ⟨rfl, hs1⟩; rw [← HW.out] at hs1; have h_ := HV.out.fut (w' := w1); obtain ⟨v0, v1, v2, v3⟩ := At.z4 h_.at0; have lv := h_.lt; clear h_)
    | (go_at_call 44; (with_reducible refine (CL.out _).mono ?_); rintro e w2 ⟨rfl, hs2⟩; have HX := hide (Blk.new w2 [.int .i64 3, .int .i64 0, .bool false, .string v.s] 73))
    | (go_at_call 45; (with_reducible refine (A1.out _).mono ?_); rintro e w3 ⟨rfl, hs3⟩; clear v0 v1 v2 v3 lv; have h_ := HX.out.fut (w' := w3); obtain ⟨x0, x1, x2, x3⟩ := At.z4 h_.at0; have lx := h_.lt; clear h_))
  have HF := hide (Blk.new_at (w := w3.alloc (.cells #[.int .i64 1, .int .i64 bq, .bool false, .string ⟨#[]⟩] 73)) (b := w3.heap.size + 1) (by simp) [.int .i64 0, .int .i64 2, .int .i64 k] 78)
  go_upto_region 10 with (first
    | (go_at_call 22; refine (num_any _ _).mono ?_; rintro e w' ⟨rfl, rfl⟩)
    | (go_at_call 45; (with_reducible refine (A2.out _).mono ?_); rintro e w4 ⟨rfl, hs4⟩; clear x0 x1 x2 x3 lx; have h_ := HX.out.fut (w' := w4); obtain ⟨x0, x1, x2, x3⟩ := At.z4 h_.at0; have lx := h_.lt; clear h_; have h_ := HF.out.fut (w' := w4); obtain ⟨f0, f1, f2⟩ := At.z3 h_.at0; have lf := h_.lt; clear h_; have HT := hide (Blk.new w4 [.int .i64 3, .int .i64 0, .bool false, .string tq] 73)))
  go_wp2_with (first
    | (go_at_call 22; refine (num_any _ _).mono ?_; rintro e w' ⟨rfl, rfl⟩)
    | (go_at_call 45; (with_reducible refine (A3.out _).mono ?_); rintro e w5 ⟨rfl, hs5⟩; clear x0 x1 x2 x3 lx f0 f1 f2 lf; have h_ := HX.out.fut (w' := w5); obtain ⟨x0, x1, x2, x3⟩ := At.z4 h_.at0; have lx := h_.lt; clear h_; have h_ := HT.out.fut (w' := w5); obtain ⟨t0, t1, t2, t3⟩ := At.z4 h_.at0; have lt_ := h_.lt; clear h_)
    | (go_at_call 48; (with_reducible refine (CM.out _).mono ?_); rintro e w6 ⟨rfl, hs6⟩))
  go_ret
  exact ⟨rfl, Step.of⟩
theorem twice_any (v : Val) (p : Int) (w : World) (hv : FineV v) : Calls Tryd.prog 11 #[.agg #[.int .i64 v.kind, .int .i64 v.i, .bool v.b, .string v.s], .int .i64 p] w fun e w' => e = .returned (.bool true) ∧ Step w w' := by
  by_cases h1 : v.kind = 1
  · exact twice_one v p w hv h1
  by_cases h2 : v.kind = 2
  · exact twice_two v p w hv h2
  by_cases h3 : v.kind = 3
  · exact twice_three v p w hv h3
  · exact twice_zero v p w hv (by omega)
end Go.Proofs.YtfojdjmeefglcaaDoor
