/-
  The document's printer: an object's keys.
-/
import Derived.Test.YtoibfefalflooaaDoorE2
import Derived.Test.YtoibfefalflooaaDoorJv
import Derived.Test.YtoibfefalflooaaDoorJz
import Derived.Test.YtoibfefalflooaaDoorJ1
import Derived.Test.YtoibfefalflooaaDoorYsj
namespace Go.Proofs.YtoibfefalflooaaDoor
open Go.RowKit

set_option maxRecDepth 100000 in
set_option maxHeartbeats 16000000 in
theorem rkeys_any (K : Int) (b : Bool) (n : Int) (s : ByteArray) (A : Option Addr) (nl c : Nat) (AK : Option Addr) (nk cK : Nat) (ks : List ByteArray) (hkl : ks.length = nk) (hsz : ∀ q ∈ ks, q.size ≤ 1048576) (hnk : nk ≤ 8796093022208) (B : Bool) (hB : B = (decide (nk = nl) && keysF [] ks))
    (w : World) (hAK : SlAt w w.heap.size 1 AK (strCells ks)) :
    Calls Tryd.prog 50 #[.agg #[.int .i64 K, .bool b, .int .i64 n, .string s, .slice A nl c, .slice AK nk cK]] w fun e w' => e = .returned (.bool B) ∧ Step w w' := by
  have HKL := hide hkl; have HAK := hide hAK; have HSZ := hide hsz; have HB := hide hB
  obtain ⟨W, hW⟩ : ∃ W : World, W = w.alloc (.cells #[.int .i64 K, .bool b, .int .i64 n, .string s, .slice A nl c, .slice AK nk cK] 25) := ⟨_, rfl⟩
  have HBL : Hid (Blk W w.heap.size 25 [.int .i64 K, .bool b, .int .i64 n, .string s, .slice A nl c, .slice AK nk cK]) := by rw [hW]; exact Blk.new w _ 25
  have SW : Step w W := by rw [hW]; exact Step.of
  clear hkl hAK hsz hB
  go_enter Tryd.func50, Tryd.ntmps50
  go_upto_region 1 with fail
  rw [← hW]
  clear hW
  obtain ⟨c0, c1, c2, c3, c4, c5⟩ := At.z6 HBL.out.at0
  have lc := HBL.out.lt
  by_cases hnl : nk = nl
  · subst hnl
    have HB2 : Hid (keysF [] ks = B) := by show _ = _; rw [HB.out]; simp
    go_wp2_with fail
    clear c0 c1 c2 c3 c4 c5 lc
    go_loopw [3] (fun v3 wr => ∃ k : Nat, k ≤ nk ∧ v3 = .int .i64 k ∧ Hid (keysF (ks.take k) (ks.drop k) = B) ∧ Step W wr) (fun v3 _ => nk - (intOf v3).toNat)
    case atStart => exact ⟨0, Nat.zero_le _, rfl, HB2.out, Step.of⟩
    case round =>
      obtain ⟨k, hk, rfl, HF, hst⟩ := hrel
      clear HB2
      obtain ⟨wo, rfl⟩ : ∃ x : World, x = wr := ⟨_, rfl⟩
      have hb := HBL.out.fut (w' := wo)
      obtain ⟨c0, c1, c2, c3, c4, c5⟩ := At.z6 hb.at0
      have lc := hb.lt
      clear hb
      by_cases hlt : k < nk
      · have hkl : (k : Int) < (nk : Int) := by omega
        have hk0 : (0 : Int) ≤ (k : Int) := by omega
        obtain ⟨bK, oK, q, rfl, hbK, hq, hcell⟩ := str_at HAK.out (w := wo) inferInstance (k := k) (by rw [HKL.out]; exact hlt)
        obtain ⟨hlk, hqe⟩ := List.getElem?_eq_some_iff.1 hq
        have HDD : Hid (B = (!(ks.take k).contains q && validB q && keysF (ks.take (k + 1)) (ks.drop (k + 1)))) := by
          show _ = _
          rw [← HF.out, List.drop_eq_getElem_cons hlk, keysF_step, hqe, List.take_add_one, hq]
          rfl
        have hqs : q.size ≤ 1048576 := HSZ.out q (List.mem_of_getElem? hq)
        have UV := fun w' => rvalid_any q w' (by omega)
        obtain ⟨V, hV⟩ : ∃ V, validB q = V := ⟨_, rfl⟩
        rw [hV] at HDD UV
        have UV := hide UV
        have HQ := hide hq
        clear hV hqe hlk hq
        cases V with
        | false =>
          obtain rfl : B = false := by rw [HDD.out, Bool.and_false, Bool.false_and]
          go_wp2_with (go_at_call 47; (with_reducible refine (UV.out _).mono ?_); rintro e w1 ⟨rfl, hs1⟩)
          go_ret
          exact ⟨rfl, Step.of⟩
        | true =>
          go_upto_region 8 with (go_at_call 47; (with_reducible refine (UV.out _).mono ?_); rintro e w1 ⟨rfl, hs1⟩)
          clear c0 c1 c2 c3 c4 c5 lc hcell
          go_wp2_with fail
          go_loopw [4] (fun v4 wr => ∃ m : Nat, m ≤ k ∧ v4 = .int .i64 m ∧ Hid ((ks.take m).contains q = false) ∧ Step w1 wr) (fun v4 _ => k - (intOf v4).toNat)
          case atStart => exact ⟨0, Nat.zero_le _, rfl, (by show _ = _; simp), Step.of⟩
          case round =>
            obtain ⟨m, hm, rfl, HM, hst2⟩ := hrel
            obtain ⟨wi, rfl⟩ : ∃ x : World, x = wr := ⟨_, rfl⟩
            have hb := HBL.out.fut (w' := wi)
            obtain ⟨c0, c1, c2, c3, c4, c5⟩ := At.z6 hb.at0
            have lc := hb.lt
            clear hb
            by_cases hml : m < k
            · have hmi : (m : Int) < (k : Int) := by omega
              have hmn : (m : Int) < (nk : Int) := by omega
              have hm0 : (0 : Int) ≤ (m : Int) := by omega
              obtain ⟨b1, o1, q1, he1, hb1, hq1, hcell1⟩ := str_at HAK.out (w := wi) inferInstance (k := m) (by rw [HKL.out]; omega)
              obtain ⟨b2, o2, q2, he2, hb2, hq2, hcell2⟩ := str_at HAK.out (w := wi) inferInstance (k := k) (by rw [HKL.out]; exact hlt)
              injection he1 with he1; injection he1 with e1 e2; subst e1 e2
              injection he2 with he2; injection he2 with e1 e2; subst e1 e2
              obtain rfl : q = q2 := by have := HQ.out; rw [hq2] at this; injection this with this; exact this.symm
              have HTK : Hid ((ks.take (m + 1)).contains q = (decide (q1 = q))) := by
                show _ = _
                rw [List.take_add_one, hq1, List.contains_append, HM.out]
                simp [eq_comm]
              have hin : q1 = q → (ks.take k).contains q = true := fun e => by
                rw [List.contains_iff_mem]
                subst e
                exact List.mem_of_getElem? (i := m) (by rw [List.getElem?_take_of_lt hml]; exact hq1)
              clear hq1 hq2
              by_cases hqq : q1 = q
              · have hct := hin hqq
                obtain rfl : B = false := by rw [HDD.out, hct]; rfl
                subst hqq
                clear hin HTK hct
                go_wp2_with fail
                go_quiet (fail)
                go_wp2_with fail
                go_ret
                exact ⟨rfl, Step.of⟩
              · have HN : Hid ((ks.take (m + 1)).contains q = false) := by show _ = _; rw [HTK.out, decide_eq_false hqq]
                have hqt : (q1.toList == q.toList) = false := beq_eq_false_iff_ne.2 (fun e => hqq (toList_inj e))
                clear hin HTK hqq
                go_wp2_with fail
                go_quiet (fail)
                go_wp2_with fail
                go_roundw
                case rel => exact ⟨m + 1, by omega, by go_num, HN, Step.of⟩
                case measure => simp [intOf]; omega
            · obtain rfl : m = k := by omega
              clear hml
              have HNX : Hid (keysF (ks.take (m + 1)) (ks.drop (m + 1)) = B) := by show _ = _; rw [HDD.out, HM.out]; rfl
              go_wp2_with fail
              go_roundw
              case rel => exact ⟨m + 1, by omega, by go_num, HNX, Step.of⟩
              case measure => simp [intOf]; omega
      · obtain rfl : k = nk := by omega
        have HT : Hid (B = true) := by show _ = _; rw [← HF.out, ← HKL.out, List.drop_length, keysF]
        clear hlt
        go_wp2_with fail
        obtain rfl : B = true := HT.out
        go_ret
        exact ⟨rfl, Step.of⟩
  · obtain rfl : B = false := by rw [HB.out, decide_eq_false hnl]; rfl
    have hne : ((nk : Int) != (nl : Int)) = true := bne_iff_ne.2 (by omega)
    go_wp2_with fail
    go_ret
    exact ⟨rfl, Step.of⟩
end Go.Proofs.YtoibfefalflooaaDoor
