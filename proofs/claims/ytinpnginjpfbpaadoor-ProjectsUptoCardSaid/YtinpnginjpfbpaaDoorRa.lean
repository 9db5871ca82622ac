/-
  The document's own answer: NameMay, KindMay, Find, of a schema's columns.
-/
import Derived.Test.YtinpnginjpfbpaaDoorBase
import Derived.Test.YtinpnginjpfbpaaDoorSi
namespace Go.Proofs.YtinpnginjpfbpaaDoor
open Go.RowKit

theorem SchIn.fut {w w' : World} {s : Sch} {A : Option Addr} {cap : Nat} (h : SchIn w s A cap) [k : Fut w w'] : SchIn w' s A cap := ⟨h.hcap, h.hcapm, h.len, h.at_.fut, h.names⟩

theorem rkind_any (k : Int) (w : World) : Calls Tryd.prog 39 #[.int .i64 k] w fun e w' => e = .returned (.bool (kindB k)) ∧ w = w' := by
  go_enter Tryd.func39, Tryd.ntmps39
  go_wp2
  all_goals
    go_ret
    exact ⟨ret_bool (by simp [kindB]; try omega), rfl⟩

theorem rfind_any {w0 : World} (s : Sch) (A : Option Addr) (cap : Nat) (nm : ByteArray) (w : World) (h : SchIn w0 s A cap) [hf : Fut w0 w] :
    Calls Tryd.prog 27 #[s.val A cap, .string nm] w fun e w' => e = .returned (.int .i64 (idx (named nm) s.cols)) ∧ Step w w' := by
  have hat := h.at_
  have hl := h.len
  obtain ⟨id, cols, nx⟩ := s
  simp only [Sch.val] at hat hl ⊢
  have hB := hf.below.size
  go_enter Tryd.func27, Tryd.ntmps27
  go_wp2
  go_loop [5] (fun i => ∃ k : Nat, k ≤ cols.length ∧ i = .int .i64 k ∧ k ≤ cols.findIdx (named nm)) (fun i => cols.length - (intOf i).toNat)
  case atStart => exact ⟨0, Nat.zero_le _, rfl, Nat.zero_le _⟩
  case round =>
    obtain ⟨k, hk, rfl, hfi⟩ := hrel
    by_cases hlt : k < cols.length
    · obtain ⟨b, off, rfl, hb, hc⟩ := hat.elem hf (k := k) (by simpa using hlt)
      obtain ⟨h1, h2, h3⟩ := At.l3 (hc k cols[k].cells (by simp [hlt]))
      have hb' : b < w.heap.size := by omega
      clear hc
      cases hp : named nm cols[k] with
      | true =>
        have Hp := Lib.hid hp
        have e : cols.findIdx (named nm) = k := fi_hit (named nm) cols k hlt hfi Hp.out
        have E := hide e; clear e
        have hp' : (cols[k].name.toList == nm.toList) = true := hp
        clear hp
        go_wp2
        go_ret
        exact ⟨ret_int (by simp [idx, E.out, hlt]), Step.of⟩
      | false =>
        have Hp := Lib.hid hp
        have hp' : (cols[k].name.toList == nm.toList) = false := hp
        clear hp
        go_wp2
        go_round
        case rel => exact ⟨k + 1, by omega, by go_num, fi_miss (named nm) cols k hlt hfi Hp.out⟩
        case measure => simp [intOf]; omega
    · go_wp2_with fail
      go_ret
      exact ⟨ret_int (by rw [idx, if_neg (by omega)]), Step.of⟩

def fineU (x : Nat) : Bool := (decide (97 ≤ x) && decide (x ≤ 122) || decide (48 ≤ x) && decide (x ≤ 57)) || decide (x = 95)
theorem set_fineU : ∀ n, n < 256 → nameSet.contains (UInt8.ofNat n) = fineU n := by decide +kernel
theorem fineU_iff (c : UInt8) : nameSet.contains c = true ↔ (97 ≤ c.toNat ∧ c.toNat ≤ 122 ∨ 48 ≤ c.toNat ∧ c.toNat ≤ 57) ∨ c.toNat = 95 := by
  have h := set_fineU c.toNat c.toNat_lt
  rw [UInt8.ofNat_toNat] at h
  rw [h]
  simp [fineU]
theorem all_drop {α : Type} (p : α → Bool) (l : List α) (k : Nat) (h : k < l.length) : (l.drop k).all p = (p l[k] && (l.drop (k + 1)).all p) := by
  rw [List.drop_eq_getElem_cons h, List.all_cons]

set_option maxHeartbeats 1000000 in
theorem rname_any (s : ByteArray) (w : World) : Calls Tryd.prog 38 #[.string s] w fun e w' => e = .returned (.bool (nameB s)) ∧ w = w' := by
  by_cases h1 : 1 ≤ s.size
  · by_cases h2 : s.size ≤ 16
    · obtain ⟨R, hR⟩ : ∃ R, nameB s = R := ⟨_, rfl⟩
      have h0 : (s.data.toList.drop 0).all (nameSet.contains ·) = R := by rw [← hR]; simp [nameB, h1, h2]
      have HR := hide hR
      rw [HR.out]
      clear hR
      have H0 := hide h0; clear h0
      go_enter Tryd.func38, Tryd.ntmps38
      go_wp2
      go_loop [3, 4] (fun i _ => ∃ k : Nat, k ≤ s.size ∧ i = .int .i64 k ∧ (s.data.toList.drop k).all (nameSet.contains ·) = R) (fun i _ => s.size - (intOf i).toNat)
      case atStart => exact ⟨0, Nat.zero_le _, rfl, H0.out⟩
      case round =>
        obtain ⟨k, hk, rfl, hal⟩ := hrel
        have HA := hide hal; clear hal
        by_cases hlt : k < s.size
        · have hd := all_drop (nameSet.contains ·) s.data.toList k (by simpa using hlt)
          have HD := hide hd; clear hd
          have hfi := fineU_iff s[k]
          have HF := hide hfi; clear hfi
          have hs : (s.data.toList[k]'(by simpa using hlt)) = s[k] := rfl
          have HS := hide hs; clear hs
          cases hx : nameSet.contains s[k] with
          | true =>
            have HX := hide hx; clear hx
            have hy := HF.out.1 HX.out
            go_wp2
            all_goals first
              | (exfalso; omega)
              | (exfalso; simp at *; omega)
              | (go_round
                 case rel => exact ⟨k + 1, by omega, by go_num, by have := HA.out; rw [HD.out, HS.out, HX.out, Bool.true_and] at this; exact this⟩
                 case measure => simp [intOf]; omega)
          | false =>
            have HX := hide hx; clear hx
            have hy : ¬ ((97 ≤ s[k].toNat ∧ s[k].toNat ≤ 122 ∨ 48 ≤ s[k].toNat ∧ s[k].toNat ≤ 57) ∨ s[k].toNat = 95) := fun h => by have := HF.out.2 h; rw [HX.out] at this; cases this
            have hr : R = false := by have := HA.out; rw [HD.out, HS.out, HX.out, Bool.false_and] at this; exact this.symm
            have HRF := hide hr; clear hr
            go_wp2
            all_goals first
              | (exfalso; omega)
              | (exfalso; simp at *; omega)
              | (go_ret; exact ⟨ret_bool HRF.out.symm, rfl⟩)
        · obtain rfl : k = s.size := by omega
          go_wp2
          go_ret
          exact ⟨ret_bool (by rw [← HA.out, List.drop_of_length_le (by simp)]; rfl), rfl⟩
    · have h3 : 16 < s.size := by omega
      clear h2
      go_enter Tryd.func38, Tryd.ntmps38
      go_wp2
      go_ret
      exact ⟨ret_bool (by simp [nameB]; omega), rfl⟩
  · have h3 : s.size = 0 := by omega
    clear h1
    go_enter Tryd.func38, Tryd.ntmps38
    go_wp2
    go_ret
    exact ⟨ret_bool (by simp [nameB, h3]), rfl⟩
end Go.Proofs.YtinpnginjpfbpaaDoor
