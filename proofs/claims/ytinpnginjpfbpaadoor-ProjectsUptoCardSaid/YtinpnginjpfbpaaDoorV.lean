/-
  Values: the program's Plain, the document's kind, Clean, Null, Below, Cmp.
-/
import Derived.Test.YtinpnginjpfbpaaDoorBase
import Derived.Test.YtinpnginjpfbpaaDoorPrP
import Derived.WalkLawsBesides
import Derived.Deep.QuietTactic
import Derived.BigQuiet
namespace Go.Proofs.YtinpnginjpfbpaaDoor
open Go.RowKit

theorem plain_any (v : Val) (w : World) : Calls Tryd.prog 22 #[v.val] w fun e w' => e = .returned (clean v).val ∧ Step w w' := by
  obtain ⟨k, i, b, s⟩ := v
  unfold Val.val
  by_cases h1 : k = 1
  · subst h1
    go_enter Tryd.func22, Tryd.ntmps22
    go_wp2_with fail
    refine bodyPost_ret (v := .agg #[.int .i64 1, .int .i64 i, .bool false, .string ⟨#[]⟩]) (by simp [results, Tryd.results22, go_sem]) rfl ⟨rfl, Step.of⟩
  have e1 : (k == 1) = false := by simpa using h1
  by_cases h2 : k = 2
  · subst h2
    clear e1 h1
    go_enter Tryd.func22, Tryd.ntmps22
    go_wp2_with fail
    refine bodyPost_ret (v := .agg #[.int .i64 2, .int .i64 0, .bool b, .string ⟨#[]⟩]) (by simp [results, Tryd.results22, go_sem]) rfl ⟨rfl, Step.of⟩
  have e2 : (k == 2) = false := by simpa using h2
  by_cases h3 : k = 3
  · subst h3
    clear e1 h1 e2 h2
    go_enter Tryd.func22, Tryd.ntmps22
    go_wp2_with fail
    refine bodyPost_ret (v := .agg #[.int .i64 3, .int .i64 0, .bool false, .string s]) (by simp [results, Tryd.results22, go_sem]) rfl ⟨rfl, Step.of⟩
  have e3 : (k == 3) = false := by simpa using h3
  have HC : Hid (clean ⟨k, i, b, s⟩ = Val.zero) := by show clean _ = _; simp [clean, h1, h2, h3]
  clear h1 h2 h3
  go_enter Tryd.func22, Tryd.ntmps22
  go_wp2_with fail
  refine bodyPost_ret (v := .agg #[.int .i64 0, .int .i64 0, .bool false, .string ⟨#[]⟩]) (by simp [results, Tryd.results22, go_sem]) rfl ⟨by rw [HC.out]; rfl, Step.of⟩

theorem vkind_any (v : Val) (w : World) : Calls Tryd.prog 41 #[v.val] w fun e w' => e = .returned (.int .i64 (kindV v)) ∧ Step w w' := by
  obtain ⟨k, i, b, s⟩ := v
  unfold Val.val
  go_enter Tryd.func41, Tryd.ntmps41
  go_wp2
  all_goals
    go_ret
    exact ⟨ret_int (by simp only [kindV]; split <;> omega), Step.of⟩

def nullB (v : Val) : Bool := kindV v == 0
theorem vnull_any (v : Val) (w : World) : Calls Tryd.prog 46 #[v.val] w fun e w' => e = .returned (.bool (nullB v)) ∧ Step w w' := by
  have HK := hide (vkind_any v)
  have HN : Hid (nullB v = (kindV v == 0)) := rfl
  obtain ⟨k, i, b, s⟩ := v
  unfold Val.val at HK ⊢
  go_enter Tryd.func46, Tryd.ntmps46
  go_wp2_with fail
  refine (HK.out _).mono ?_
  rintro e w1 ⟨rfl, hs⟩
  go_wp2_with fail
  go_ret
  exact ⟨ret_bool HN.out.symm, Step.of⟩

theorem less_drop (a b : ByteArray) (k : Nat) (ha : k < a.size) (hb : k < b.size) : Op.bytesLess (a.data.toList.drop k) (b.data.toList.drop k) = (decide (a[k] < b[k]) || (a[k] == b[k] && Op.bytesLess (a.data.toList.drop (k + 1)) (b.data.toList.drop (k + 1)))) := by
  rw [List.drop_eq_getElem_cons (by simpa using ha), List.drop_eq_getElem_cons (l := b.data.toList) (by simpa using hb), Op.bytesLess]
  rfl
theorem bytesLess_nil (l : List UInt8) : Op.bytesLess l [] = false := by cases l <;> rfl
theorem bytesLess_nil' (l : List UInt8) : Op.bytesLess [] l = decide (0 < l.length) := by cases l <;> simp [Op.bytesLess]
theorem strLt_data (a b : ByteArray) : strLt a b = Op.bytesLess (a.data.toList.drop 0) (b.data.toList.drop 0) := by
  have e : ∀ x : ByteArray, x.toList = x.data.toList := fun x => ByteArray.toList_eq x
  simp [strLt, e]
set_option maxHeartbeats 1000000 in
theorem below_any (a b : ByteArray) (w : World) (ha : a.size ≤ 9223372036854775807) (_hb : b.size ≤ 9223372036854775807) : Calls Tryd.prog 81 #[.string a, .string b] w fun e w' => e = .returned (.bool (strLt a b)) ∧ Step w w' := by
  obtain ⟨R, hR⟩ : ∃ R, strLt a b = R := ⟨_, rfl⟩
  have h0 := strLt_data a b
  rw [hR] at h0 ⊢
  have H0 := hide h0.symm
  clear hR h0
  go_enter Tryd.func81, Tryd.ntmps81
  go_wp2
  go_loopw [5] (fun i wr => ∃ k : Nat, k ≤ a.size ∧ k ≤ b.size ∧ i = .int .i64 k ∧ Op.bytesLess (a.data.toList.drop k) (b.data.toList.drop k) = R ∧ Step w wr) (fun i _ => a.size - (intOf i).toNat)
  case atStart => exact ⟨0, Nat.zero_le _, Nat.zero_le _, rfl, H0.out, Step.of⟩
  case round =>
    obtain ⟨k, hk1, hk2, rfl, hr, hs⟩ := hrel
    have HR := hide hr; clear hr
    by_cases h1 : k < a.size
    · by_cases h2 : k < b.size
      · have HD := hide (less_drop a b k h1 h2)
        by_cases he : a[k] = b[k]
        · have he' : ((a[k].toNat : Int) == (b[k].toNat : Int)) = true := by rw [he]; simp
          have he2 : ((a[k].toNat : Int) != (b[k].toNat : Int)) = false := by rw [he]; simp
          have HE := hide he; clear he
          go_wp2
          go_quiet (fail)
          go_wp2
          go_roundw
          case rel =>
            refine ⟨k + 1, by omega, by omega, by go_num, ?_, Step.of⟩
            rw [← HR.out, HD.out, HE.out]
            simp
          case measure => simp [intOf]; omega
        · have he0 : (a[k].toNat : Int) ≠ (b[k].toNat : Int) := fun e => he (UInt8.toNat_inj.1 (by omega))
          have he' : ((a[k].toNat : Int) == (b[k].toNat : Int)) = false := by simpa using he0
          have he2 : ((a[k].toNat : Int) != (b[k].toNat : Int)) = true := by simpa using he0
          have HE := hide he; clear he he0
          go_wp2
          go_quiet (fail)
          go_wp2
          go_quiet (fail)
          go_wp2
          go_ret
          refine ⟨ret_bool ?_, Step.of⟩
          rw [← HR.out, HD.out]
          have : (a[k] == b[k]) = false := by simpa using HE.out
          simp [this, UInt8.lt_iff_toNat_lt]
      · obtain rfl : k = b.size := by omega
        go_wp2_with fail
        go_ret
        refine ⟨ret_bool ?_, hs⟩
        rw [← HR.out, List.drop_of_length_le (l := b.data.toList) (by simp), bytesLess_nil]
        simp; omega
    · obtain rfl : k = a.size := by omega
      go_wp2_with fail
      go_ret
      refine ⟨ret_bool ?_, hs⟩
      rw [← HR.out, List.drop_of_length_le (l := a.data.toList) (by simp), bytesLess_nil']
      simp; omega

theorem val_fit (v : Val) : v.cells.length = 4 ∧ ∀ u ∈ v.cells, u.oneCell' = true := by
  refine ⟨rfl, fun u hu => ?_⟩
  simp [Val.cells] at hu
  rcases hu with rfl | rfl | rfl | rfl <;> rfl
theorem vals_fit (l : List Val) : Fit 4 (l.map Val.cells) := Fit.map val_fit l
/-- Plain, with its answer's fields written out. -/
theorem plain_ag (v : Val) (w : World) : Calls Tryd.prog 22 #[.agg #[.int .i64 v.kind, .int .i64 v.i, .bool v.b, .string v.s]] w fun e w' => e = .returned (.agg #[.int .i64 (kindV v), .int .i64 (clean v).i, .bool (clean v).b, .string (clean v).s]) ∧ Step w w' :=
  (plain_any v w).mono fun e w' h => ⟨by rw [h.1, ← clean_kind]; rfl, h.2⟩
end Go.Proofs.YtinpnginjpfbpaaDoor
