/-
  listing.Version: a key's version.
-/
import Derived.Test.YtlcimfabimfekaaGreatDoorLd
import Derived.Lib.AtoiErrMem
namespace Go.Proofs.YtlcimfabimfekaaGreatDoor
open Go.RowKit

/-- What the program asks of a key: the part ahead of a tail. -/
def hd (l : List UInt8) (c : Bool) : List UInt8 := Lib.trimSuffix l (tailL c)
def okB (l : List UInt8) (c : Bool) : Bool := Lib.hasSuffix l (tailL c) && Lib.hasPrefix (hd l c) logP && ((hd l c).length == 14) && ((hd l c).drop 4).all isDig
theorem hd_of {l : List UInt8} {c : Bool} (h : okB l c = true) : l = logP ++ (hd l c).drop 4 ++ tailL c ∧ ((hd l c).drop 4).length = 10 ∧ ((hd l c).drop 4).all isDig = true := by
  unfold okB at h
  simp only [Bool.and_eq_true, beq_iff_eq] at h
  obtain ⟨⟨⟨h1, h2⟩, h3⟩, h4⟩ := h
  have e1 : l = hd l c ++ tailL c := by
    unfold hd Lib.trimSuffix
    rw [if_pos h1]
    unfold Lib.hasSuffix at h1
    obtain ⟨t, ht⟩ := List.isSuffixOf_iff_suffix.1 h1
    rw [← ht]
    simp
  have e2 : hd l c = logP ++ (hd l c).drop 4 := by
    unfold Lib.hasPrefix at h2
    obtain ⟨t, ht⟩ := List.isPrefixOf_iff_prefix.1 h2
    rw [← ht]
    rfl
  exact ⟨by rw [← e2]; exact e1, by rw [List.length_drop, h3], h4⟩
theorem ok_key {l : List UInt8} {v : Nat} {c : Bool} (h : verR l = some (v, c)) : okB l c = true := by
  obtain ⟨e, _⟩ := verR_some h
  have hd1 : hd l c = logP ++ padD 10 v := by
    unfold hd Lib.trimSuffix
    have hs : Lib.hasSuffix l (tailL c) = true := by
      unfold Lib.hasSuffix
      exact List.isSuffixOf_iff_suffix.2 ⟨logP ++ padD 10 v, by rw [e]; rfl⟩
    rw [if_pos hs, e]
    unfold keyL
    rw [List.length_append, Nat.add_sub_cancel, List.take_left]
  unfold okB
  rw [hd1]
  simp only [Bool.and_eq_true, beq_iff_eq]
  refine ⟨⟨⟨?_, ?_⟩, ?_⟩, ?_⟩
  · unfold Lib.hasSuffix
    exact List.isSuffixOf_iff_suffix.2 ⟨logP ++ padD 10 v, by rw [e]; rfl⟩
  · unfold Lib.hasPrefix
    exact List.isPrefixOf_iff_prefix.2 ⟨padD 10 v, rfl⟩
  · rw [List.length_append, padD_len]; rfl
  · rw [show (logP ++ padD 10 v).drop 4 = padD 10 v from List.drop_left' rfl]; exact padD_dig 10 v
theorem ver_ok {l : List UInt8} {c : Bool} (h : okB l c = true) : verR l = if valL 0 ((hd l c).drop 4) ≤ 2147483647 then some (valL 0 ((hd l c).drop 4), c) else none := by
  obtain ⟨e, h1, h2⟩ := hd_of h
  have := verR_of (c := c) h1 h2
  rw [← e] at this
  exact this
theorem ver_no {l : List UInt8} (h0 : okB l false = false ∨ verR l = none) (h1 : okB l true = false ∨ verR l = none) : verR l = none := by
  cases e : verR l with
  | none => rfl
  | some p =>
    obtain ⟨v, c⟩ := p
    have hk := ok_key e
    cases c with
    | false => rcases h0 with h | h <;> simp_all
    | true => rcases h1 with h | h <;> simp_all
theorem ext_drop (s : ByteArray) : (s.extract 4 s.size).data.toList = s.data.toList.drop 4 := by
  rw [ByteArray.data_extract, Array.toList_extract, List.extract_eq_take_drop]
  rw [List.take_of_length_le]
  rw [List.length_drop, size_list]
  exact Nat.le_refl _

theorem and4 {a b c d : Bool} (h : (a && b && c && d) = false) : a = false ∨ (a = true ∧ b = false) ∨ (a = true ∧ b = true ∧ c = false) ∨ (a = true ∧ b = true ∧ c = true ∧ d = false) := by
  cases a <;> cases b <;> cases c <;> cases d <;> simp_all
/-- What the library answers about one tail. -/
structure Ask (s T : ByteArray) (c : Bool) (N : ByteArray) (is pre : Bool) : Prop where
  cut : ∀ w : World, Calls Tryz.prog 21 #[.string s, .string T] w fun e w' => e = .returned (.tuple #[.string N, .bool is]) ∧ w' = w
  hpre : ∀ w : World, Calls Tryz.prog 22 #[.string N, .string ⟨#[108, 111, 103, 47]⟩] w fun e w' => e = .returned (.bool pre) ∧ w' = w
  trim : ∃ E : ByteArray, (E.toList.isEmpty = ((hd s.data.toList c).drop 4).all isDig) ∧ ∀ w : World, Calls Tryz.prog 23 #[.string (N.extract 4 N.size), .string ⟨#[48, 49, 50, 51, 52, 53, 54, 55, 56, 57]⟩] w fun e w' => e = .returned (.string E) ∧ Step w w'
  atoi : okB s.data.toList c = true → ∀ w : World, Calls Tryz.prog 24 #[.string (N.extract 4 N.size)] w fun e w' => e = .returned (.tuple #[.int .i64 (valL 0 ((hd s.data.toList c).drop 4)), .nilIface]) ∧ Step w w'
  ok : okB s.data.toList c = (is && pre && (N.size == 14) && ((hd s.data.toList c).drop 4).all isDig)
theorem ask_of (s : ByteArray) (c : Bool) (T : ByteArray) (hT : T = ofL (tailL c)) (hs : s.size ≤ 9223372036854775807) : ∃ N is pre, Ask s T c N is pre := by
  subst hT
  refine ⟨ofL (hd s.data.toList c), Lib.hasSuffix s.data.toList (tailL c), Lib.hasPrefix (hd s.data.toList c) logP, ?_, ?_, ?_, ?_, ?_⟩
  · intro w
    have h := Tryz.strings_CutSuffix s (ofL (tailL c)) w hs
    rw [ofL_list] at h
    exact h
  · intro w
    have h := Tryz.strings_HasPrefix (ofL (hd s.data.toList c)) ⟨#[108, 111, 103, 47]⟩ w
    rw [ofL_list] at h
    exact h
  · have hx : (ofL (hd s.data.toList c)).extract 4 (ofL (hd s.data.toList c)).size = ofL ((hd s.data.toList c).drop 4) := by
      rw [← ofL_self (ByteArray.extract _ _ _), ext_drop, ofL_list]
    have hle : (ofL ((hd s.data.toList c).drop 4)).size ≤ 9223372036854775807 := by
      rw [ofL_size, List.length_drop]
      have : (hd s.data.toList c).length ≤ s.data.toList.length := by
        unfold hd Lib.trimSuffix
        split
        · rw [List.length_take]; omega
        · exact Nat.le_refl _
      rw [size_list] at this
      omega
    rw [hx]
    refine ⟨ofL (Lib.trimS ((hd s.data.toList c).drop 4) digS), ?_, fun w => ?_⟩
    · rw [ByteArray.toList_eq, ofL_list, Bool.eq_iff_iff, List.isEmpty_iff, trim_digits]
    · refine (Any.strings_Trim_laid Tryz.lays160 (by kernel_rfl) (ofL ((hd s.data.toList c).drop 4)) ⟨#[48, 49, 50, 51, 52, 53, 54, 55, 56, 57]⟩ w hle (by decide) (ascii_of_all (by decide))).mono ?_
      rintro e w' ⟨rfl, hb⟩
      rw [ofL_list]
      exact ⟨rfl, ⟨hb⟩⟩
  · intro hok w
    obtain ⟨_, h1, h2⟩ := hd_of hok
    have hx : (ofL (hd s.data.toList c)).extract 4 (ofL (hd s.data.toList c)).size = ofL ((hd s.data.toList c).drop 4) := by
      rw [← ofL_self (ByteArray.extract _ _ _), ext_drop, ofL_list]
    rw [hx]
    refine (Tryz.strconv_Atoi _ _ (by rw [ofL_size, h1]; decide) (by rw [ofL_list]; exact atoi_val (by intro h; rw [h] at h1; simp at h1) h2) w).mono ?_
    rintro e w' ⟨rfl, t, rfl⟩
    exact ⟨rfl, ⟨Lib.bytesWorld_below _ _ _⟩⟩
  · unfold okB
    rw [ofL_size]

set_option maxRecDepth 100000 in
set_option maxHeartbeats 8000000 in
theorem pver_any (s : ByteArray) (w : World) (hs : s.size ≤ 9223372036854775807) :
    Calls Tryz.prog 11 #[.string s] w fun e w' => e = .returned (.tuple #[.int .i64 (verV s).1, .bool (verV s).2]) ∧ Step w w' := by
  obtain ⟨R, hR⟩ : ∃ R, verV s = R := ⟨_, rfl⟩
  rw [hR]
  have HR := hide hR
  clear hR
  obtain ⟨N0, is0, pre0, AK0⟩ := ask_of s false ⟨#[46, 106, 115, 111, 110]⟩ rfl hs
  obtain ⟨N1, is1, pre1, AK1⟩ := ask_of s true ⟨#[46, 99, 104, 101, 99, 107]⟩ rfl hs
  have A0 := hide AK0; have A1 := hide AK1
  clear AK0 AK1
  have HN := hide (Blk.new w [.string ⟨#[46, 106, 115, 111, 110]⟩, .string ⟨#[46, 99, 104, 101, 99, 107]⟩] 9)
  go_enter Tryz.func11, Tryz.ntmps11
  go_wp2_with fail
  obtain ⟨W, hW⟩ : ∃ x : World, x = w.alloc (.cells #[.string ⟨#[46, 106, 115, 111, 110]⟩, .string ⟨#[46, 99, 104, 101, 99, 107]⟩] 9) := ⟨_, rfl⟩
  have SW : Step w W := by rw [hW]; exact Step.of
  rw [← hW] at HN
  rw [← hW]
  clear hW
  have hlW := HN.out.lt
  go_loopw [5, 6, 7, 8, 9, 12] (fun _ _ _ _ _ j wr => ∃ k : Nat, k ≤ 2 ∧ j = .int .i64 k ∧ Hid ((0 < k → okB s.data.toList false = false ∨ verR s.data.toList = none) ∧ (1 < k → okB s.data.toList true = false ∨ verR s.data.toList = none)) ∧ Step W wr) (fun _ _ _ _ _ j _ => 2 - (intOf j).toNat)
  case atStart => exact ⟨0, by omega, rfl, ⟨fun h => by omega, fun h => by omega⟩, Step.of⟩
  case round =>
    obtain ⟨k, hk, rfl, HK, hst⟩ := hrel
    obtain ⟨wo, rfl⟩ : ∃ x : World, x = wr := ⟨_, rfl⟩
    have hzo := hst.size
    have hlw : w.heap.size < wo.heap.size := by omega
    rcases (by omega : k = 0 ∨ k = 1 ∨ k = 2) with rfl | rfl | rfl
    · have AK0 := A0.out
      have kc := AK0.cut; have kp := AK0.hpre; have ka := AK0.atoi; have ko := AK0.ok
      obtain ⟨EE, he, kt⟩ := AK0.trim
      have KC := hide kc; have KP := hide kp; have KT := hide kt
      clear kc kp kt
      have p0 : wo.cell? ⟨w.heap.size, 0, none⟩ = some (.string ⟨#[46, 106, 115, 111, 110]⟩) := by have h_ := (HN.out.fut (w' := wo)).at0 0 (.string ⟨#[46, 106, 115, 111, 110]⟩) rfl; simpa using h_
      by_cases hok : okB s.data.toList false = true
      · rw [hok] at ko
        replace ko := ko.symm
        simp only [Bool.and_eq_true, beq_iff_eq] at ko
        obtain ⟨⟨⟨k1, k2⟩, k3⟩, k4⟩ := ko
        have KA := hide (ka hok)
        subst k1 k2
        rw [k4] at he
        have kz : ((N0.size : Int) != 14) = false := by rw [k3]; rfl
        have kz4 : (4 : Int) ≤ (N0.size : Int) := by omega
        have HV := hide (ver_ok hok)
        obtain ⟨V, hV⟩ : ∃ V, valL 0 ((hd s.data.toList false).drop 4) = V := ⟨_, rfl⟩
        rw [hV] at KA HV
        clear k3 k4 hok ka hV
        by_cases hv : V ≤ 2147483647
        · have HE : Hid (R = ((V : Int), false)) := by show _ = _; rw [← HR.out]; exact ver_some (by rw [HV.out, if_pos hv])
          have hv2 : (V : Int) ≤ 2147483647 := by omega
          go_wp2_with (first | (go_at_call 21; (with_reducible refine (KC.out _).mono ?_); rintro e w3 ⟨rfl, rfl⟩) | (go_at_call 22; (with_reducible refine (KP.out _).mono ?_); rintro e w4 ⟨rfl, rfl⟩) | (go_at_call 23; (with_reducible refine (KT.out _).mono ?_); rintro e w5 ⟨rfl, hs5⟩) | (go_at_call 24; (with_reducible refine (KA.out _).mono ?_); rintro e w6 ⟨rfl, hs6⟩))
          go_ret2
          exact ⟨by rw [HE.out]; rfl, Step.of⟩
        · have HE : Hid (verR s.data.toList = none) := by show _ = _; rw [HV.out, if_neg hv]
          have hv2 : ¬ (V : Int) ≤ 2147483647 := by omega
          go_wp2_with (first | (go_at_call 21; (with_reducible refine (KC.out _).mono ?_); rintro e w3 ⟨rfl, rfl⟩) | (go_at_call 22; (with_reducible refine (KP.out _).mono ?_); rintro e w4 ⟨rfl, rfl⟩) | (go_at_call 23; (with_reducible refine (KT.out _).mono ?_); rintro e w5 ⟨rfl, hs5⟩) | (go_at_call 24; (with_reducible refine (KA.out _).mono ?_); rintro e w6 ⟨rfl, hs6⟩))
          go_roundw
          case rel => exact ⟨1, by omega, by go_num, ⟨fun _ => .inr HE.out, fun h => by omega⟩, Step.of⟩
          case measure => simp [intOf]
      · have hok2 : okB s.data.toList false = false := by simpa using hok
        have HE := hide hok2
        rw [hok2] at ko
        replace ko := ko.symm
        clear ka hok hok2
        rcases and4 ko with k1 | ⟨k1, k2⟩ | ⟨k1, k2, k3⟩ | ⟨k1, k2, k3, k4⟩
        · subst k1
          clear ko
          go_wp2_with (first | (go_at_call 21; (with_reducible refine (KC.out _).mono ?_); rintro e w3 ⟨rfl, rfl⟩))
          go_roundw
          case rel => exact ⟨1, by omega, by go_num, ⟨fun _ => .inl HE.out, fun h => by omega⟩, Step.of⟩
          case measure => simp [intOf]
        · subst k1 k2
          clear ko
          go_wp2_with (first | (go_at_call 21; (with_reducible refine (KC.out _).mono ?_); rintro e w3 ⟨rfl, rfl⟩) | (go_at_call 22; (with_reducible refine (KP.out _).mono ?_); rintro e w4 ⟨rfl, rfl⟩))
          go_roundw
          case rel => exact ⟨1, by omega, by go_num, ⟨fun _ => .inl HE.out, fun h => by omega⟩, Step.of⟩
          case measure => simp [intOf]
        · subst k1 k2
          have kz : ((N0.size : Int) != 14) = true := by have := beq_eq_false_iff_ne.1 k3; exact bne_iff_ne.2 (by omega)
          clear ko k3
          go_wp2_with (first | (go_at_call 21; (with_reducible refine (KC.out _).mono ?_); rintro e w3 ⟨rfl, rfl⟩) | (go_at_call 22; (with_reducible refine (KP.out _).mono ?_); rintro e w4 ⟨rfl, rfl⟩))
          go_roundw
          case rel => exact ⟨1, by omega, by go_num, ⟨fun _ => .inl HE.out, fun h => by omega⟩, Step.of⟩
          case measure => simp [intOf]
        · subst k1 k2
          rw [k4] at he
          have k3 : N0.size = 14 := by simpa using k3
          have kz : ((N0.size : Int) != 14) = false := by rw [k3]; rfl
          have kz4 : (4 : Int) ≤ (N0.size : Int) := by omega
          clear ko k3 k4
          go_wp2_with (first | (go_at_call 21; (with_reducible refine (KC.out _).mono ?_); rintro e w3 ⟨rfl, rfl⟩) | (go_at_call 22; (with_reducible refine (KP.out _).mono ?_); rintro e w4 ⟨rfl, rfl⟩) | (go_at_call 23; (with_reducible refine (KT.out _).mono ?_); rintro e w5 ⟨rfl, hs5⟩))
          go_roundw
          case rel => exact ⟨1, by omega, by go_num, ⟨fun _ => .inl HE.out, fun h => by omega⟩, Step.of⟩
          case measure => simp [intOf]
    · have AK1 := A1.out
      have kc := AK1.cut; have kp := AK1.hpre; have ka := AK1.atoi; have ko := AK1.ok
      obtain ⟨EE, he, kt⟩ := AK1.trim
      have KC := hide kc; have KP := hide kp; have KT := hide kt
      clear kc kp kt
      have p0 : wo.cell? ⟨w.heap.size, 1, none⟩ = some (.string ⟨#[46, 99, 104, 101, 99, 107]⟩) := by have h_ := (HN.out.fut (w' := wo)).at0 1 (.string ⟨#[46, 99, 104, 101, 99, 107]⟩) rfl; simpa using h_
      by_cases hok : okB s.data.toList true = true
      · rw [hok] at ko
        replace ko := ko.symm
        simp only [Bool.and_eq_true, beq_iff_eq] at ko
        obtain ⟨⟨⟨k1, k2⟩, k3⟩, k4⟩ := ko
        have KA := hide (ka hok)
        subst k1 k2
        rw [k4] at he
        have kz : ((N1.size : Int) != 14) = false := by rw [k3]; rfl
        have kz4 : (4 : Int) ≤ (N1.size : Int) := by omega
        have HV := hide (ver_ok hok)
        obtain ⟨V, hV⟩ : ∃ V, valL 0 ((hd s.data.toList true).drop 4) = V := ⟨_, rfl⟩
        rw [hV] at KA HV
        clear k3 k4 hok ka hV
        by_cases hv : V ≤ 2147483647
        · have HE : Hid (R = ((V : Int), true)) := by show _ = _; rw [← HR.out]; exact ver_some (by rw [HV.out, if_pos hv])
          have hv2 : (V : Int) ≤ 2147483647 := by omega
          go_wp2_with (first | (go_at_call 21; (with_reducible refine (KC.out _).mono ?_); rintro e w3 ⟨rfl, rfl⟩) | (go_at_call 22; (with_reducible refine (KP.out _).mono ?_); rintro e w4 ⟨rfl, rfl⟩) | (go_at_call 23; (with_reducible refine (KT.out _).mono ?_); rintro e w5 ⟨rfl, hs5⟩) | (go_at_call 24; (with_reducible refine (KA.out _).mono ?_); rintro e w6 ⟨rfl, hs6⟩))
          go_ret2
          exact ⟨by rw [HE.out]; rfl, Step.of⟩
        · have HE : Hid (verR s.data.toList = none) := by show _ = _; rw [HV.out, if_neg hv]
          have hv2 : ¬ (V : Int) ≤ 2147483647 := by omega
          go_wp2_with (first | (go_at_call 21; (with_reducible refine (KC.out _).mono ?_); rintro e w3 ⟨rfl, rfl⟩) | (go_at_call 22; (with_reducible refine (KP.out _).mono ?_); rintro e w4 ⟨rfl, rfl⟩) | (go_at_call 23; (with_reducible refine (KT.out _).mono ?_); rintro e w5 ⟨rfl, hs5⟩) | (go_at_call 24; (with_reducible refine (KA.out _).mono ?_); rintro e w6 ⟨rfl, hs6⟩))
          go_roundw
          case rel => exact ⟨2, by omega, by go_num, ⟨fun _ => .inr HE.out, fun _ => .inr HE.out⟩, Step.of⟩
          case measure => simp [intOf]
      · have hok2 : okB s.data.toList true = false := by simpa using hok
        have HE := hide hok2
        rw [hok2] at ko
        replace ko := ko.symm
        clear ka hok hok2
        rcases and4 ko with k1 | ⟨k1, k2⟩ | ⟨k1, k2, k3⟩ | ⟨k1, k2, k3, k4⟩
        · subst k1
          clear ko
          go_wp2_with (first | (go_at_call 21; (with_reducible refine (KC.out _).mono ?_); rintro e w3 ⟨rfl, rfl⟩))
          go_roundw
          case rel => exact ⟨2, by omega, by go_num, ⟨fun _ => HK.out.1 (by omega), fun _ => .inl HE.out⟩, Step.of⟩
          case measure => simp [intOf]
        · subst k1 k2
          clear ko
          go_wp2_with (first | (go_at_call 21; (with_reducible refine (KC.out _).mono ?_); rintro e w3 ⟨rfl, rfl⟩) | (go_at_call 22; (with_reducible refine (KP.out _).mono ?_); rintro e w4 ⟨rfl, rfl⟩))
          go_roundw
          case rel => exact ⟨2, by omega, by go_num, ⟨fun _ => HK.out.1 (by omega), fun _ => .inl HE.out⟩, Step.of⟩
          case measure => simp [intOf]
        · subst k1 k2
          have kz : ((N1.size : Int) != 14) = true := by have := beq_eq_false_iff_ne.1 k3; exact bne_iff_ne.2 (by omega)
          clear ko k3
          go_wp2_with (first | (go_at_call 21; (with_reducible refine (KC.out _).mono ?_); rintro e w3 ⟨rfl, rfl⟩) | (go_at_call 22; (with_reducible refine (KP.out _).mono ?_); rintro e w4 ⟨rfl, rfl⟩))
          go_roundw
          case rel => exact ⟨2, by omega, by go_num, ⟨fun _ => HK.out.1 (by omega), fun _ => .inl HE.out⟩, Step.of⟩
          case measure => simp [intOf]
        · subst k1 k2
          rw [k4] at he
          have k3 : N1.size = 14 := by simpa using k3
          have kz : ((N1.size : Int) != 14) = false := by rw [k3]; rfl
          have kz4 : (4 : Int) ≤ (N1.size : Int) := by omega
          clear ko k3 k4
          go_wp2_with (first | (go_at_call 21; (with_reducible refine (KC.out _).mono ?_); rintro e w3 ⟨rfl, rfl⟩) | (go_at_call 22; (with_reducible refine (KP.out _).mono ?_); rintro e w4 ⟨rfl, rfl⟩) | (go_at_call 23; (with_reducible refine (KT.out _).mono ?_); rintro e w5 ⟨rfl, hs5⟩))
          go_roundw
          case rel => exact ⟨2, by omega, by go_num, ⟨fun _ => HK.out.1 (by omega), fun _ => .inl HE.out⟩, Step.of⟩
          case measure => simp [intOf]
    · have HE : Hid (R = (-1, false)) := by show _ = _; rw [← HR.out]; exact ver_none (ver_no (HK.out.1 (by omega)) (HK.out.2 (by omega)))
      go_wp2_with fail
      go_ret2
      exact ⟨by rw [HE.out]; rfl, Step.of⟩
end Go.Proofs.YtlcimfabimfekaaGreatDoor
