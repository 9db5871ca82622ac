/-
  The document's keys, and which versions there are.
-/
import Derived.Test.YtlcimfabimfekaaGreatDoorLa
import Derived.Test.YtlcimfabimfekaaGreatDoorDecl
namespace Go.Proofs.YtlcimfabimfekaaGreatDoor
open Go.RowKit

def ofL (l : List UInt8) : ByteArray := ⟨l.toArray⟩
theorem ofL_size (l : List UInt8) : (ofL l).size = l.length := by simp [ofL, ByteArray.size]
theorem ofL_list (l : List UInt8) : (ofL l).data.toList = l := by simp [ofL]
theorem ofL_self (s : ByteArray) : ofL s.data.toList = s := by cases s; simp [ofL]
theorem ofL_app (a b : List UInt8) : ofL a ++ ofL b = ofL (a ++ b) := by
  apply ByteArray.ext
  simp [ofL]
theorem ofL_inj {a b : List UInt8} (h : ofL a = ofL b) : a = b := by
  have h2 : (ofL a).data.toList = (ofL b).data.toList := by rw [h]
  rwa [ofL_list, ofL_list] at h2
theorem size_list (s : ByteArray) : s.data.toList.length = s.size := Array.length_toList
theorem get_list (s : ByteArray) {i : Nat} (h : i < s.size) : s.data.toList[i]? = some s[i] := by
  have h2 : i < s.data.toList.length := by rw [size_list]; exact h
  rw [List.getElem?_eq_getElem h2]
  simp [ByteArray.getElem_eq_getElem_data]
theorem pre4 (s : ByteArray) : (s.extract 0 4).data.toList = s.data.toList.take 4 := by simp [ByteArray.data_extract]
def keyS (v : Int) (c : Bool) : ByteArray := if v < 0 ∨ 2147483647 < v then ⟨#[]⟩ else ofL (keyL v.toNat c)
def keyE (v : Int) : Int := if v < 0 ∨ 2147483647 < v then 2200 else 0
def verV (s : ByteArray) : Int × Bool := match verR s.data.toList with | some (v, c) => ((v : Int), c) | none => (-1, false)
theorem digs_more : ∀ (f m : Nat) (acc : List UInt8), acc ≠ [] → m < 10 ^ f → digs f m acc = (if m = 0 then [] else Lib.decDigits m) ++ acc
  | 0, m, acc, h, hm => by
    have : m = 0 := by simpa using hm
    subst this
    rfl
  | f + 1, m, acc, h, hm => by
    rw [digs]
    by_cases h0 : m = 0
    · rw [if_pos ⟨h0, h⟩, if_pos h0]; rfl
    · rw [if_neg (fun hh => h0 hh.1), if_neg h0, digs_more f _ _ (by simp) (by rw [Nat.pow_succ] at hm; omega)]
      have hdec : Lib.decDigits m = if h : m < 10 then [UInt8.ofNat (48 + m)] else Lib.decDigits (m / 10) ++ [UInt8.ofNat (48 + m % 10)] := by rw [Lib.decDigits]
      rw [hdec]
      by_cases h10 : m < 10
      · rw [dif_pos h10, if_pos (by omega), Nat.mod_eq_of_lt h10]; rfl
      · rw [dif_neg h10, if_neg (by omega), List.append_assoc]; rfl
theorem decB_dec {v : Nat} (h : v < 10 ^ 19) : decB v = ofL (Lib.decDigits v) := by
  unfold decB ofL
  congr 2
  rw [digs, if_neg (by simp), digs_more 19 _ _ (by simp) (by omega)]
  by_cases h10 : v < 10
  · rw [if_pos (by omega), Lib.decDigits, dif_pos h10, Nat.mod_eq_of_lt h10]; rfl
  · rw [if_neg (by omega)]
    conv => rhs; rw [Lib.decDigits, dif_neg h10]
theorem key_zero {v : Nat} (h : v ≤ 2147483647) (c : Bool) : keyS v c = ofL (keyL v c) := by
  unfold keyS
  rw [if_neg (by omega), Int.toNat_natCast]
theorem key_bad {v : Int} (h : v < 0 ∨ 2147483647 < v) (c : Bool) : keyS v c = ⟨#[]⟩ := if_pos h
theorem keyE_bad {v : Int} (h : v < 0 ∨ 2147483647 < v) : keyE v = 2200 := if_pos h
theorem keyE_good {v : Int} (h : ¬(v < 0 ∨ 2147483647 < v)) : keyE v = 0 := if_neg h
theorem log_eq : (⟨#[108, 111, 103, 47]⟩ : ByteArray) = ofL logP := rfl
theorem tail_eq (c : Bool) : (if c then (⟨#[46, 99, 104, 101, 99, 107]⟩ : ByteArray) else ⟨#[46, 106, 115, 111, 110]⟩) = ofL (tailL c) := by cases c <;> rfl

set_option maxRecDepth 100000 in
set_option maxHeartbeats 4000000 in
theorem rkey_any (v : Int) (c : Bool) (w : World) (hv : -9223372036854775808 ≤ v ∧ v ≤ 9223372036854775807) :
    Calls Tryz.prog 17 #[.int .i64 v, .bool c] w fun e w' => e = .returned (.tuple #[.string (keyS v c), .int .i64 (keyE v)]) ∧ Step w w' := by
  by_cases h0 : v < 0
  · rw [key_bad (.inl h0), keyE_bad (.inl h0)]
    go_enter Tryz.func17, Tryz.ntmps17
    go_wp2_with fail
    go_ret2
    exact ⟨rfl, Step.of⟩
  by_cases h1 : 2147483647 < v
  · rw [key_bad (.inr h1), keyE_bad (.inr h1)]
    have h2 : decide (v > 2147483647) = true := by simpa using h1
    go_enter Tryz.func17, Tryz.ntmps17
    go_wp2_with fail
    go_ret2
    exact ⟨rfl, Step.of⟩
  rw [keyE_good (by omega)]
  obtain ⟨n, rfl⟩ : ∃ n : Nat, v = n := ⟨v.toNat, by omega⟩
  have hn : n ≤ 2147483647 := by omega
  rw [key_zero hn]
  obtain ⟨S, hS⟩ : ∃ S, ofL (keyL n c) = S := ⟨_, rfl⟩
  have hd := pad_dec 9 n (by omega)
  have HS : Hid (ofL logP ++ ofL (padD 10 n) ++ ofL (tailL c) = S) := by show _ = _; rw [← hS, ofL_app, ofL_app]; rfl
  have HP := hide hd.1
  have hdl := hd.2.1
  have hd1 := hd.2.2
  have DD := decimal_any n (by omega)
  rw [decB_dec (by omega)] at DD
  obtain ⟨D, hD⟩ : ∃ D, Lib.decDigits n = D := ⟨_, rfl⟩
  rw [hD] at DD HP hdl hd1
  have DD := hide DD
  rw [hS]
  clear hS hd hD
  have hv2 : ¬ ((n : Int) > 2147483647) := by omega
  go_enter Tryz.func17, Tryz.ntmps17
  go_wp2_with (go_at_call 19; (with_reducible refine (DD.out _).mono ?_); rintro e w3 ⟨rfl, hs3⟩)
  go_loopw [6] (fun x wr => ∃ (k : Nat) (T : ByteArray), k + D.length ≤ 10 ∧ x = .string T ∧ T.size = k + D.length ∧ Hid (T = ofL (List.replicate k 48 ++ D)) ∧ Step w wr) (fun x _ => 10 - (match x with | .string T => T.size | _ => 0))
  case atStart => exact ⟨0, ofL D, by omega, rfl, by rw [ofL_size]; omega, rfl, Step.of⟩
  case round =>
    obtain ⟨k, T, hk, rfl, hts, HT, hst⟩ := hrel
    by_cases hlt : T.size < 10
    · have hl : (T.size : Int) < 10 := by omega
      have hts2 : T.size ≤ 10 := by omega
      go_wp2_with fail
      go_roundw
      case rel =>
        refine ⟨k + 1, _, by omega, rfl, ?_, ?_, hst⟩
        · rw [ByteArray.size_append]; show 1 + _ = _; omega
        · show _ = _
          rw [HT.out, show (⟨#[48]⟩ : ByteArray) = ofL [48] from rfl, ofL_app]
          rfl
      case measure => simp [ByteArray.size_append]; show 10 - (1 + _) < _; omega
    · have hl : ¬ (T.size : Int) < 10 := by omega
      have hts2 : T.size = 10 := by omega
      have HTP : Hid (T = ofL (padD 10 n)) := by show _ = _; rw [HT.out, HP.out]; congr 3; omega
      cases c with
      | true =>
        go_wp2_with fail
        go_ret2
        exact ⟨by rw [← HS.out, HTP.out]; rfl, hst⟩
      | false =>
        go_wp2_with fail
        go_ret2
        exact ⟨by rw [← HS.out, HTP.out]; rfl, hst⟩
theorem ver_none {s : ByteArray} (h : verR s.data.toList = none) : verV s = (-1, false) := by unfold verV; rw [h]
theorem ver_some {s : ByteArray} {v : Nat} {c : Bool} (h : verR s.data.toList = some (v, c)) : verV s = ((v : Int), c) := by unfold verV; rw [h]
theorem ver_size {s : ByteArray} {v : Nat} {c : Bool} (h : verR s.data.toList = some (v, c)) : s.size = if c then 20 else 19 := by
  rw [← size_list, (verR_some h).1, keyL_len]
theorem ver_bd (s : ByteArray) : -1 ≤ (verV s).1 ∧ (verV s).1 ≤ 2147483647 := by
  unfold verV
  cases h : verR s.data.toList with
  | none => exact ⟨by decide, by decide⟩
  | some p => have := (verR_some (v := p.1) (c := p.2) h).2; exact ⟨by show -1 ≤ (p.1 : Int); omega, by show (p.1 : Int) ≤ _; omega⟩
/-- The digits of a key, so far. -/
def mid (s : ByteArray) (k : Nat) : List UInt8 := (s.data.toList.drop 4).take k
theorem mid_succ (s : ByteArray) {k : Nat} (h : 4 + k < s.size) : mid s (k + 1) = mid s k ++ [s[4 + k]] := by
  unfold mid
  rw [List.take_add_one, List.getElem?_drop, get_list s h]
  rfl
theorem mid_len (s : ByteArray) {k : Nat} (h : 4 + k ≤ s.size) : (mid s k).length = k := by
  unfold mid
  rw [List.length_take, List.length_drop, size_list]
  omega
theorem val_lt {l : List UInt8} (h : l.all isDig = true) : valL 0 l < 10 ^ l.length := (pad_val l h).2
theorem ver_prefix {s : ByteArray} (h : (s.extract 0 4).data.toList ≠ logP) : verR s.data.toList = none := by
  unfold verR
  rw [if_neg]
  rintro ⟨h1, _⟩
  exact h (by rw [pre4]; exact h1)
theorem ver_dig {s : ByteArray} {k : Nat} (hk : k < 10) (h : 4 + k < s.size) (hb : isDig s[4 + k] = false) : verR s.data.toList = none := by
  unfold verR
  rw [if_neg]
  rintro ⟨_, h2, _⟩
  have h3 := List.all_eq_true.1 h2 s[4 + k] (List.mem_of_getElem? (i := k) (by rw [List.getElem?_take, if_pos hk, List.getElem?_drop, get_list s h]))
  rw [hb] at h3
  cases h3
theorem ver_digm {s : ByteArray} {m : Nat} (h4 : 4 ≤ m) (h14 : m < 14) (h : m < s.size) (hb : s[m].toNat < 48 ∨ 57 < s[m].toNat) : verR s.data.toList = none := by
  obtain ⟨k, rfl⟩ : ∃ k, m = 4 + k := ⟨m - 4, by omega⟩
  refine ver_dig (k := k) (by omega) h ?_
  cases e : isDig s[4 + k] with
  | false => rfl
  | true => have := isDig_iff.1 e; omega
/-- A key of ten digits is its number's key, or none. -/
theorem ver_ten {s : ByteArray} (h1 : (s.extract 0 4).data.toList = logP) (hs : 14 ≤ s.size) (hd : (mid s 10).all isDig = true) (c : Bool) : keyL (valL 0 (mid s 10)) c = s.data.toList ↔ s.data.toList.drop 14 = tailL c := by
  have hl := mid_len s (k := 10) (by omega)
  have hp := (pad_val _ hd).1
  rw [hl] at hp
  have hsplit : s.data.toList = logP ++ mid s 10 ++ s.data.toList.drop 14 := by
    rw [pre4] at h1
    unfold mid
    rw [← h1, List.append_assoc, show s.data.toList.drop 14 = (s.data.toList.drop 4).drop 10 by rw [List.drop_drop], List.take_append_drop, List.take_append_drop]
  unfold keyL
  rw [hp]
  constructor
  · intro h
    rw [hsplit] at h
    exact (List.append_cancel_left h).symm
  · intro h
    rw [← h]
    exact hsplit.symm
theorem ver_at {s : ByteArray} (h1 : (s.extract 0 4).data.toList = logP) (hd : (mid s 10).all isDig = true) : verR s.data.toList = if valL 0 (mid s 10) ≤ 2147483647 then (if s.data.toList.drop 14 = tailL false then some (valL 0 (mid s 10), false) else if s.data.toList.drop 14 = tailL true then some (valL 0 (mid s 10), true) else none) else none := by
  rw [pre4] at h1
  unfold verR
  by_cases hv : valL 0 (mid s 10) ≤ 2147483647
  · rw [if_pos ⟨h1, hd, hv⟩, if_pos hv]; rfl
  · rw [if_neg (fun h => hv h.2.2), if_neg hv]

set_option maxRecDepth 100000 in
set_option maxHeartbeats 8000000 in
theorem rver_any (s : ByteArray) (w : World) (hs : s.size ≤ 9223372036854775807) :
    Calls Tryz.prog 13 #[.string s] w fun e w' => e = .returned (.tuple #[.int .i64 (verV s).1, .bool (verV s).2]) ∧ Step w w' := by
  obtain ⟨R, hR⟩ : ∃ R, verV s = R := ⟨_, rfl⟩
  rw [hR]
  have HR := hide hR
  clear hR
  by_cases hsz : s.size = 19 ∨ s.size = 20
  case neg =>
    have HN : Hid (verV s = (-1, false)) := by
      show _ = _
      refine ver_none ?_
      cases h : verR s.data.toList with
      | none => rfl
      | some p =>
        have := ver_size (v := p.1) (c := p.2) h
        split at this <;> omega
    have b1 : ((s.size : Int) != 19) = true := by simp; omega
    have b2 : ((s.size : Int) != 20) = true := by simp; omega
    rw [show R = (-1, false) from HR.out.symm.trans HN.out]
    clear hsz
    go_enter Tryz.func13, Tryz.ntmps13
    go_wp2_with fail
    go_ret2
    exact ⟨rfl, Step.of⟩
  have h14 : 19 ≤ s.size ∧ s.size ≤ 20 := by omega
  have HB : Hid (((((s.size : Int) != 19) = false) ∧ True) ∨ (((s.size : Int) != 19) = true ∧ ((s.size : Int) != 20) = false)) := by
    show _ ∨ _
    rcases hsz with h | h
    · exact .inl ⟨by simp; omega, trivial⟩
    · exact .inr ⟨by simp; omega, by simp; omega⟩
  have hx0 : (4 : Int) ≤ (s.size : Int) := by omega
  by_cases hpre : (s.extract 0 4).toList = [108, 111, 103, 47]
  case neg =>
    have hpb : ((s.extract 0 4).toList == [108, 111, 103, 47]) = false := beq_eq_false_iff_ne.2 hpre
    have HN : Hid (verV s = (-1, false)) := by
      show _ = _
      refine ver_none (ver_prefix fun h => hpre ?_)
      rw [ByteArray.toList_eq, h]
      rfl
    rw [show R = (-1, false) from HR.out.symm.trans HN.out]
    clear hsz hpre
    rcases HB.out with ⟨b1, _⟩ | ⟨b1, b2⟩
    all_goals
      go_enter Tryz.func13, Tryz.ntmps13
      go_wp2_with fail
      go_ret2
      exact ⟨rfl, Step.of⟩
  have hpb : ((s.extract 0 4).toList == [108, 111, 103, 47]) = true := beq_iff_eq.2 hpre
  have HP : Hid ((s.extract 0 4).data.toList = logP) := by show _ = _; rw [← ByteArray.toList_eq, hpre]; rfl
  clear hsz hpre
  rcases HB.out with ⟨b1, _⟩ | ⟨b1, b2⟩
  all_goals
    go_enter Tryz.func13, Tryz.ntmps13
    go_wp2_with fail
    clear hpb b1 hx0
    (try clear b2)
    go_loopw [4, 5] (fun v i wr => ∃ (m V : Nat), 4 ≤ m ∧ m ≤ 14 ∧ i = .int .i64 m ∧ v = .int .i64 V ∧ Hid (V = valL 0 (mid s (m - 4)) ∧ (mid s (m - 4)).all isDig = true) ∧ Step w wr) (fun _ i _ => 14 - (intOf i).toNat)
    case atStart => exact ⟨4, 0, by omega, by omega, rfl, rfl, ⟨rfl, rfl⟩, Step.of⟩
    case round =>
      obtain ⟨m, V, hm4, hm14, rfl, rfl, HV, hst⟩ := hrel
      obtain ⟨wo, rfl⟩ : ∃ x : World, x = wr := ⟨_, rfl⟩
      have hVb : V < 10000000000 := by
        have h1 := val_lt HV.out.2
        rw [← HV.out.1, mid_len s (by omega)] at h1
        have h2 : 10 ^ (m - 4) ≤ 10 ^ 10 := Nat.pow_le_pow_right (by decide) (by omega)
        omega
      by_cases hlt : m < 14
      · have hms : m < s.size := by omega
        have hm0 : (m : Int) < 14 := by omega
        have hm1 : (m : Int) < (s.size : Int) := by omega
        have hm2 : (0 : Int) ≤ (m : Int) := by omega
        have hbb := s[m].toNat_lt
        by_cases hlo : s[m].toNat < 48
        · have HN : Hid (verV s = (-1, false)) := ver_none (ver_digm hm4 hlt hms (by omega))
          have l1 : ((s[m].toNat : Int) < 48) := by omega
          clear hlo
          go_wp2_with fail
          go_ret2
          exact ⟨by rw [← HR.out, HN.out]; rfl, hst⟩
        by_cases hhi : 57 < s[m].toNat
        · have HN : Hid (verV s = (-1, false)) := ver_none (ver_digm hm4 hlt hms (by omega))
          have l1 : ¬ ((s[m].toNat : Int) < 48) := by omega
          have l2 : ((s[m].toNat : Int) > 57) := by omega
          clear hlo hhi
          go_wp2_with fail
          go_ret2
          exact ⟨by rw [← HR.out, HN.out]; rfl, hst⟩
        have l1 : ¬ ((s[m].toNat : Int) < 48) := by omega
        have l2 : ¬ ((s[m].toNat : Int) > 57) := by omega
        have l3 : IntKind.u8.wrap ((s[m].toNat : Int) - 48) = (s[m].toNat : Int) - 48 := by rw [IntKind.wrap_u8]; omega
        have HV2 : Hid (10 * V + (s[m].toNat - 48) = valL 0 (mid s (m + 1 - 4)) ∧ (mid s (m + 1 - 4)).all isDig = true) := by
          show _ ∧ _
          have e := mid_succ s (k := m - 4) (by omega)
          rw [show m + 1 - 4 = m - 4 + 1 by omega, e, valL_app, ← HV.out.1, List.all_append, HV.out.2]
          have e2 : 4 + (m - 4) = m := by omega
          simp only [e2]
          refine ⟨trivial, ?_⟩
          simp only [List.all_cons, List.all_nil, Bool.and_true, Bool.true_and]
          exact isDig_iff.2 (by omega)
        have hl1 : 48 ≤ s[m].toNat := by omega
        have hh1 : s[m].toNat ≤ 57 := by omega
        clear hlo hhi
        go_wp2_with fail
        go_roundw
        case rel => exact ⟨m + 1, 10 * V + (s[m].toNat - 48), by omega, by omega, by go_num, by go_num, HV2.out, hst⟩
        case measure => simp [intOf]; omega
      · have hm : m = 14 := by omega
        rw [hm] at HV
        have hml : ¬ (m : Int) < 14 := by omega
        clear hm hlt hm4 hm14
        have HD : Hid ((mid s 10).all isDig = true) := HV.out.2
        have HVE : Hid (V = valL 0 (mid s 10)) := HV.out.1
        have HA := hide (ver_at HP.out HD.out)
        rw [← HVE.out] at HA
        have hT : ∀ c, keyL V c = s.data.toList ↔ s.data.toList.drop 14 = tailL c := by
          intro c
          have h_ := ver_ten HP.out (by omega) HD.out c
          rw [← HVE.out] at h_
          exact h_
        have HT := hide hT
        have PK := fun c w' => rkey_any (V : Int) c w' (by omega)
        by_cases hv : V ≤ 2147483647
        · simp only [key_zero hv] at PK
          rw [keyE_good (by omega)] at PK
          have P0 := hide (PK false); have P1 := hide (PK true)
          obtain ⟨K0, hK0⟩ : ∃ K, ofL (keyL V false) = K := ⟨_, rfl⟩
          obtain ⟨K1, hK1⟩ : ∃ K, ofL (keyL V true) = K := ⟨_, rfl⟩
          rw [hK0] at P0; rw [hK1] at P1
          have hc0 : (K0.toList == s.toList) = decide (s.data.toList.drop 14 = tailL false) := by
            rw [Bool.eq_iff_iff, beq_iff_eq, decide_eq_true_eq, ← HT.out false, ByteArray.toList_eq, ByteArray.toList_eq, ← hK0, ofL_list]
          have hc1 : (K1.toList == s.toList) = decide (s.data.toList.drop 14 = tailL true) := by
            rw [Bool.eq_iff_iff, beq_iff_eq, decide_eq_true_eq, ← HT.out true, ByteArray.toList_eq, ByteArray.toList_eq, ← hK1, ofL_list]
          have HV0 := hide hv
          clear PK hK0 hK1 hT hv
          have hx : verV s = if s.data.toList.drop 14 = tailL false then ((V : Int), false) else if s.data.toList.drop 14 = tailL true then ((V : Int), true) else (-1, false) := by
            have h_ := HA.out
            rw [if_pos HV0.out] at h_
            split
            · rename_i h5; rw [if_pos h5] at h_; exact ver_some h_
            · rename_i h5
              rw [if_neg h5] at h_
              split
              · rename_i h6; rw [if_pos h6] at h_; exact ver_some h_
              · rename_i h6; rw [if_neg h6] at h_; exact ver_none h_
          by_cases d0 : s.data.toList.drop 14 = tailL false
          · rw [decide_eq_true d0] at hc0
            rw [if_pos d0] at hx
            have HX := hide hx
            clear hx hc1 d0
            go_wp2_with fail
            go_loopw [6, 7, 8] (fun j _ _ wr => j = .int .i64 0 ∧ Step w wr) (fun _ _ _ _ => 0)
            case atStart => exact ⟨rfl, hst⟩
            case round =>
              obtain ⟨rfl, hst2⟩ := hrel
              go_wp2_with (go_at_call 17; (with_reducible refine (P0.out _).mono ?_); rintro e w5 ⟨rfl, hs5⟩)
              go_ret2
              exact ⟨by rw [← HR.out, HX.out]; rfl, Step.of⟩
          · rw [decide_eq_false d0] at hc0
            rw [if_neg d0] at hx
            by_cases d1 : s.data.toList.drop 14 = tailL true
            · rw [decide_eq_true d1] at hc1
              rw [if_pos d1] at hx
              have HX := hide hx
              clear hx d0 d1
              go_wp2_with fail
              go_loopw [6, 7, 8] (fun j _ _ wr => ∃ k : Nat, k ≤ 1 ∧ j = .int .i64 k ∧ Step w wr) (fun j _ _ _ => 1 - (intOf j).toNat)
              case atStart => exact ⟨0, by omega, rfl, hst⟩
              case round =>
                obtain ⟨k, hk, rfl, hst2⟩ := hrel
                rcases (by omega : k = 0 ∨ k = 1) with rfl | rfl
                · go_wp2_with (go_at_call 17; (with_reducible refine (P0.out _).mono ?_); rintro e w5 ⟨rfl, hs5⟩)
                  go_roundw
                  case rel => exact ⟨1, by omega, by go_num, Step.of⟩
                  case measure => simp [intOf]
                · go_wp2_with (go_at_call 17; (with_reducible refine (P1.out _).mono ?_); rintro e w5 ⟨rfl, hs5⟩)
                  go_ret2
                  exact ⟨by rw [← HR.out, HX.out]; rfl, Step.of⟩
            · rw [decide_eq_false d1] at hc1
              rw [if_neg d1] at hx
              have HX := hide hx
              clear hx d0 d1
              go_wp2_with fail
              go_loopw [6, 7, 8] (fun j _ _ wr => ∃ k : Nat, k ≤ 2 ∧ j = .int .i64 k ∧ Step w wr) (fun j _ _ _ => 2 - (intOf j).toNat)
              case atStart => exact ⟨0, by omega, rfl, hst⟩
              case round =>
                obtain ⟨k, hk, rfl, hst2⟩ := hrel
                rcases (by omega : k = 0 ∨ k = 1 ∨ k = 2) with rfl | rfl | rfl
                · go_wp2_with (go_at_call 17; (with_reducible refine (P0.out _).mono ?_); rintro e w5 ⟨rfl, hs5⟩)
                  go_roundw
                  case rel => exact ⟨1, by omega, by go_num, Step.of⟩
                  case measure => simp [intOf]
                · go_wp2_with (go_at_call 17; (with_reducible refine (P1.out _).mono ?_); rintro e w5 ⟨rfl, hs5⟩)
                  go_roundw
                  case rel => exact ⟨2, by omega, by go_num, Step.of⟩
                  case measure => simp [intOf]
                · go_wp2_with fail
                  go_ret2
                  exact ⟨by rw [← HR.out, HX.out]; rfl, Step.of⟩
        · have PE : keyE (V : Int) = 2200 := keyE_bad (by omega)
          rw [PE] at PK
          have hx : verV s = (-1, false) := by
            have h_ := HA.out
            rw [if_neg hv] at h_
            exact ver_none h_
          obtain ⟨K0, hK0⟩ : ∃ K, keyS (V : Int) false = K := ⟨_, rfl⟩
          obtain ⟨K1, hK1⟩ : ∃ K, keyS (V : Int) true = K := ⟨_, rfl⟩
          have P0 := hide (PK false); have P1 := hide (PK true)
          rw [hK0] at P0; rw [hK1] at P1
          have HX := hide hx
          clear hx hv PK hK0 hK1 PE hT
          go_wp2_with fail
          go_loopw [6, 7, 8] (fun j _ _ wr => ∃ k : Nat, k ≤ 2 ∧ j = .int .i64 k ∧ Step w wr) (fun j _ _ _ => 2 - (intOf j).toNat)
          case atStart => exact ⟨0, by omega, rfl, hst⟩
          case round =>
            obtain ⟨k, hk, rfl, hst2⟩ := hrel
            rcases (by omega : k = 0 ∨ k = 1 ∨ k = 2) with rfl | rfl | rfl
            · go_wp2_with (go_at_call 17; (with_reducible refine (P0.out _).mono ?_); rintro e w5 ⟨rfl, hs5⟩)
              go_roundw
              case rel => exact ⟨1, by omega, by go_num, Step.of⟩
              case measure => simp [intOf]
            · go_wp2_with (go_at_call 17; (with_reducible refine (P1.out _).mono ?_); rintro e w5 ⟨rfl, hs5⟩)
              go_roundw
              case rel => exact ⟨2, by omega, by go_num, Step.of⟩
              case measure => simp [intOf]
            · go_wp2_with fail
              go_ret2
              exact ⟨by rw [← HR.out, HX.out]; rfl, Step.of⟩
/-- Keys in memory. -/
structure KeysIn (w : World) (ks : List ByteArray) (A : Option Addr) : Prop where
  at_ : SlAt w w.heap.size 1 A (strCells ks)
  len : ks.length ≤ 4611686018427387903
  size : ∀ k ∈ ks, k.size ≤ 9223372036854775807
theorem KeysIn.fut {w w' : World} {ks : List ByteArray} {A : Option Addr} (h : KeysIn w ks A) [k : Fut w w'] : KeysIn w' ks A := ⟨h.at_.fut, h.len, h.size⟩
theorem KeysIn.key {w0 w : World} {ks : List ByteArray} {A : Option Addr} (h : KeysIn w0 ks A) (hf : Fut w0 w) {k : Nat} (hk : k < ks.length) : ∃ b off s, A = some ⟨b, off, none⟩ ∧ b < w0.heap.size ∧ ks[k]? = some s ∧ s.size ≤ 9223372036854775807 ∧ w.cell? ⟨b, off + k, none⟩ = some (.string s) := by
  obtain ⟨b, off, hA, hb, hc⟩ := h.at_.elem hf (k := k) (by simpa [strCells] using hk)
  have hs : ks[k]? = some ks[k] := List.getElem?_eq_getElem hk
  have n0 := At.l1 (hc k [.string ks[k]] (by simp [strCells, hs]))
  simp only [Nat.mul_one] at n0
  exact ⟨b, off, ks[k], hA, hb, hs, h.size _ (List.getElem_mem hk), n0⟩
theorem versL_take {b : Bool} {ks : List ByteArray} {k : Nat} {s : ByteArray} (h : ks[k]? = some s) : versL b (ks.take (k + 1)) = versL b (ks.take k) ++ (match verR s.data.toList with | some (v, c) => if c = b then [v] else [] | none => []) := by
  unfold versL
  rw [List.take_add_one, h, List.filterMap_append]
  congr 1
  cases hv : verR s.data.toList with
  | none => simp [hv]
  | some p =>
    obtain ⟨v, c⟩ := p
    by_cases hc : c = b
    · simp [hv, hc]
    · simp [hv, hc]
/-- What one key adds. -/
theorem versL_more {b : Bool} {ks : List ByteArray} {k : Nat} {s : ByteArray} (h : ks[k]? = some s) : (∃ v : Nat, verV s = ((v : Int), b) ∧ versL b (ks.take (k + 1)) = versL b (ks.take k) ++ [v]) ∨ ((verV s).1 < 0 ∨ (verV s).2 ≠ b) ∧ versL b (ks.take (k + 1)) = versL b (ks.take k) := by
  rw [versL_take h]
  cases hv : verR s.data.toList with
  | none =>
    rw [ver_none hv]
    exact .inr ⟨.inl (by decide), by simp⟩
  | some p =>
    obtain ⟨v, c⟩ := p
    rw [ver_some hv]
    by_cases hc : c = b
    · subst hc
      exact .inl ⟨v, rfl, by simp⟩
    · exact .inr ⟨.inr hc, by simp [hc]⟩
theorem versL_len (b : Bool) (ks : List ByteArray) : (versL b ks).length ≤ ks.length := List.length_filterMap_le ..
theorem versL_bd {b : Bool} {ks : List ByteArray} {v : Nat} (h : v ∈ versL b ks) : v ≤ 2147483647 := by
  unfold versL at h
  obtain ⟨k, _, he⟩ := List.mem_filterMap.1 h
  cases hv : verR k.data.toList with
  | none => rw [hv] at he; cases he
  | some p =>
    obtain ⟨x, c⟩ := p
    rw [hv] at he
    simp only at he
    split at he
    · injection he with he; subst he; exact (verR_some hv).2
    · cases he

set_option maxRecDepth 100000 in
set_option maxHeartbeats 4000000 in
theorem rhas_any {w0 : World} (ks : List ByteArray) (A : Option Addr) (cap : Nat) (v : Int) (b : Bool) (w : World) (h : KeysIn w0 ks A) [f0 : Fut w0 w] :
    Calls Tryz.prog 65 #[.slice A ks.length cap, .int .i64 v, .bool b] w fun e w' => e = .returned (.bool ((versL b ks).any fun c => (c : Int) == v)) ∧ Step w w' := by
  have z0 := f0.below.size
  have hl := h.len
  obtain ⟨R, hR⟩ : ∃ R, ((versL b ks).any fun c => (c : Int) == v) = R := ⟨_, rfl⟩
  rw [hR]
  have HR := hide hR
  clear hR
  go_enter Tryz.func65, Tryz.ntmps65
  go_wp2_with fail
  go_loopw [7, 8, 9] (fun i _ _ wr => ∃ k : Nat, k ≤ ks.length ∧ i = .int .i64 k ∧ Hid (((versL b (ks.take k)).any fun c => (c : Int) == v) = false) ∧ Step w wr) (fun i _ _ _ => ks.length - (intOf i).toNat)
  case atStart => exact ⟨0, Nat.zero_le _, rfl, rfl, Step.of⟩
  case round =>
    obtain ⟨k, hk, rfl, HN, hst⟩ := hrel
    obtain ⟨wo, rfl⟩ : ∃ x : World, x = wr := ⟨_, rfl⟩
    have hzo := hst.size
    by_cases hlt : k < ks.length
    · obtain ⟨b2, off, s, hA, hb, hks, hss, n0⟩ := h.key (w := wo) inferInstance hlt
      rw [hA]
      have hkl : (k : Int) < (ks.length : Int) := by omega
      have hk0 : (0 : Int) ≤ (k : Int) := by omega
      have hlb : b2 < wo.heap.size := by omega
      have hbd := ver_bd s
      have PV := hide (fun w' => rver_any s w' hss)
      have HM := hide (versL_more (b := b) hks)
      have HFU : Hid (∀ x, x ∈ versL b (ks.take (k + 1)) → x ∈ versL b ks) := fun x hx => by
        unfold versL at hx ⊢
        obtain ⟨y, hy, he⟩ := List.mem_filterMap.1 hx
        exact List.mem_filterMap.2 ⟨y, List.mem_of_mem_take hy, he⟩
      obtain ⟨V, hV⟩ : ∃ V, verV s = V := ⟨_, rfl⟩
      rw [hV] at PV HM hbd
      obtain ⟨x, c⟩ := V
      clear hA hks hV
      by_cases hx : x = v ∧ c = b ∧ 0 ≤ x
      · obtain ⟨rfl, rfl, h0⟩ := hx
        have HT : Hid (R = true) := by
          show _ = _
          rw [← HR.out, List.any_eq_true]
          rcases HM.out with ⟨y, e1, e2⟩ | ⟨e1, _⟩
          · obtain ⟨e3, _⟩ := Prod.mk.inj e1
            exact ⟨y, HFU.out y (by rw [e2]; simp), by rw [e3]; exact beq_self_eq_true _⟩
          · rcases e1 with e1 | e1
            · have e1 : x < 0 := e1; omega
            · exact absurd rfl e1
        cases c
        all_goals
          go_wp2_with (go_at_call 13; (with_reducible refine (PV.out _).mono ?_); rintro e w5 ⟨rfl, hs5⟩)
          go_ret
          exact ⟨by rw [HT.out]; rfl, Step.of⟩
      · have HN2 : Hid (((versL b (ks.take (k + 1))).any fun c => (c : Int) == v) = false) := by
          show _ = _
          rcases HM.out with ⟨y, e1, e2⟩ | ⟨_, e2⟩
          · obtain ⟨e3, e4⟩ := Prod.mk.inj e1
            rw [e2, List.any_append, HN.out]
            simp only [List.any_cons, List.any_nil, Bool.or_false, Bool.false_or]
            refine beq_eq_false_iff_ne.2 fun hh => hx ⟨by rw [e3]; exact hh, e4, by omega⟩
          · rw [e2]; exact HN.out
        have hx2 : x ≠ v ∨ (x = v ∧ c ≠ b) ∨ (x = v ∧ c = b ∧ x < 0) := by
          by_cases h1 : x = v
          · by_cases h2 : c = b
            · exact .inr (.inr ⟨h1, h2, Int.not_le.1 fun h0 => hx ⟨h1, h2, h0⟩⟩)
            · exact .inr (.inl ⟨h1, h2⟩)
          · exact .inl h1
        clear hx
        rcases hx2 with h1 | ⟨h1, h2⟩ | ⟨h1, h2, h3⟩
        · have g1 : (x == v) = false := beq_eq_false_iff_ne.2 h1
          clear h1
          go_wp2_with (go_at_call 13; (with_reducible refine (PV.out _).mono ?_); rintro e w5 ⟨rfl, hs5⟩)
          go_roundw
          case rel => exact ⟨k + 1, by omega, by go_num, HN2.out, Step.of⟩
          case measure => simp [intOf]; omega
        · subst h1
          have g2 : (c == b) = false := beq_eq_false_iff_ne.2 h2
          clear h2
          go_wp2_with (go_at_call 13; (with_reducible refine (PV.out _).mono ?_); rintro e w5 ⟨rfl, hs5⟩)
          go_roundw
          case rel => exact ⟨k + 1, by omega, by go_num, HN2.out, Step.of⟩
          case measure => simp [intOf]; omega
        · subst h1 h2
          have g3 : ¬ (x ≥ 0) := by omega
          go_wp2_with (go_at_call 13; (with_reducible refine (PV.out _).mono ?_); rintro e w5 ⟨rfl, hs5⟩)
          go_roundw
          case rel => exact ⟨k + 1, by omega, by go_num, HN2.out, Step.of⟩
          case measure => simp [intOf]; omega
    · obtain rfl : k = ks.length := by omega
      rw [List.take_length] at HN
      go_wp2_with fail
      go_ret
      exact ⟨by rw [← HR.out, HN.out]; rfl, Step.of⟩
end Go.Proofs.YtlcimfabimfekaaGreatDoor
