/-
  The program's printer: an object's keys.
-/
import Derived.Test.YtoibfefalflooaaDoorJu
import Derived.Test.YtoibfefalflooaaDoorJj
namespace Go.Proofs.YtoibfefalflooaaDoor
open Go.RowKit

/-- How the asking of keys ends. -/
def KeysR (B : Bool) (e : Ending) : Prop :=
  match B with
  | true => e = .returned (.tuple #[])
  | false => e = .panicked [{ v := fault 300, recovered := false }]
theorem keysF_step {seen : List ByteArray} {k : ByteArray} {r : List ByteArray} : keysF seen (k :: r) = (!seen.contains k && validB k && keysF (seen ++ [k]) r) := by rw [keysF]
theorem str_at {w0 w : World} {ks : List ByteArray} {A : Option Addr} (h : SlAt w0 w0.heap.size 1 A (strCells ks)) (hf : Fut w0 w) {k : Nat} (hk : k < ks.length) : ∃ b off s, A = some ⟨b, off, none⟩ ∧ b < w0.heap.size ∧ ks[k]? = some s ∧ w.cell? ⟨b, off + k, none⟩ = some (.string s) := by
  obtain ⟨b, off, hA, hb, hc⟩ := h.elem hf (k := k) (by simpa [strCells] using hk)
  have hs : ks[k]? = some ks[k] := List.getElem?_eq_getElem hk
  have n0 := At.l1 (hc k [.string ks[k]] (by simp [strCells, hs]))
  simp only [Nat.mul_one] at n0
  exact ⟨b, off, ks[k], hA, hb, hs, n0⟩

set_option maxRecDepth 100000 in
set_option maxHeartbeats 8000000 in
theorem pkeys_any (b o : Nat) (A : Option Addr) (nl c : Nat) (AK : Option Addr) (nk cK : Nat) (ks : List ByteArray) (B : Bool) (w : World) (h4 : w.cell? ⟨b, o + 4, none⟩ = some (.slice A nl c)) (h5 : w.cell? ⟨b, o + 5, none⟩ = some (.slice AK nk cK)) (hb : b < w.heap.size)
    (hK : SlAt w w.heap.size 1 AK (strCells ks)) (hn : ks.length = nk) (hsz : ∀ q ∈ ks, q.size ≤ maxLen) (hnk : nk ≤ 8796093022208) (hB : B = (decide (nk = nl) && keysF [] ks)) :
    Calls Tryd.prog 60 #[.pointer (some ⟨b, o, none⟩)] w fun e w' => KeysR B e ∧ Step w w' := by
  have HK := hide hK; have HN := hide hn; have HSZ := hide hsz; have HB := hide hB
  clear hK hn hsz hB
  by_cases hnl : nk = nl
  · subst hnl
    have HB2 : Hid (keysF [] ks = B) := by show _ = _; rw [HB.out]; simp
    go_enter Tryd.func60, Tryd.ntmps60
    go_wp2_with fail
    go_quiet (fail)
    have hmm := @run_makeMap Tryd.prog
    go_upto_region 3 with fail
    clear hmm
    obtain ⟨W, hW⟩ : ∃ W : World, W = (w.drewN nq).alloc (.map #[] 0) := ⟨_, rfl⟩
    have HSN : Hid (Seen W w.heap.size 0 []) := by rw [hW]; exact Seen.made (w.drewN nq)
    have SW : Step w W := by rw [hW]; exact Step.of
    rw [← hW]
    clear hW
    have h5W := (SW.reads.1 b (o + 5) hb).trans h5
    go_wp2_with fail
    go_loopw [23] (fun v23 wr => ∃ k : Nat, k ≤ nk ∧ v23 = .int .i64 k ∧ Hid (keysF (ks.take k) (ks.drop k) = B) ∧ Seen wr w.heap.size k (ks.take k) ∧ Step w wr) (fun v23 _ => nk - (intOf v23).toNat)
    case atStart => exact ⟨0, Nat.zero_le _, rfl, HB2.out, HSN.out, SW⟩
    case round =>
      obtain ⟨k, hk, rfl, HF, hsn, hst⟩ := hrel
      have HS := hide hsn
      clear hsn HB2 HSN SW
      obtain ⟨wo, rfl⟩ : ∃ x : World, x = wr := ⟨_, rfl⟩
      by_cases hlt : k < nk
      · have hkl : (k : Int) < (nk : Int) := by omega
        have hk0 : (0 : Int) ≤ (k : Int) := by omega
        obtain ⟨bK, oK, q, rfl, hbK, hq, hcell⟩ := str_at HK.out (w := wo) inferInstance (k := k) (by rw [HN.out]; exact hlt)
        obtain ⟨hlk, hqe⟩ := List.getElem?_eq_some_iff.1 hq
        have HDD : Hid (B = (!(ks.take k).contains q && validB q && keysF (ks.take (k + 1)) (ks.drop (k + 1)))) := by
          show _ = _
          rw [← HF.out, List.drop_eq_getElem_cons hlk, keysF_step, hqe, List.take_add_one, hq]
          rfl
        have hqs : q.size ≤ maxLen := HSZ.out q (List.mem_of_getElem? hq)
        have UV := hide (fun w' => uvalid_any q w' (by simp only [maxLen] at hqs; omega))
        have hlku := HS.out.look q hqs
        obtain ⟨C, hC⟩ : ∃ C, (ks.take k).contains q = C := ⟨_, rfl⟩
        rw [hC] at HDD hlku
        clear hC hqe hlk
        cases C with
        | true =>
          obtain rfl : B = false := HDD.out
          go_wp2_with (first | (go_at_call 59; (with_reducible refine (UV.out _).mono ?_); rintro e w1 ⟨rfl, hs1⟩) | (go_at_call 23; (with_reducible refine (bad_any _).mono ?_); rintro e w2 ⟨rfl, rfl⟩))
          exact ⟨rfl, rfl, hst⟩
        | false =>
          obtain ⟨V, hV⟩ : ∃ V, validB q = V := ⟨_, rfl⟩
          rw [hV] at HDD UV
          clear hV
          cases V with
          | false =>
            obtain rfl : B = false := HDD.out
            go_wp2_with (first | (go_at_call 59; (with_reducible refine (UV.out _).mono ?_); rintro e w1 ⟨rfl, hs1⟩) | (go_at_call 23; (with_reducible refine (bad_any _).mono ?_); rintro e w2 ⟨rfl, rfl⟩))
            exact ⟨rfl, rfl, Step.of⟩
          | true =>
            have HD2 : Hid (keysF (ks.take (k + 1)) (ks.drop (k + 1)) = B) := by show _ = _; rw [HDD.out]; rfl
            have HTK : Hid (ks.take k ++ [q] = ks.take (k + 1)) := by show _ = _; rw [List.take_add_one, hq]; rfl
            go_wp2_with (first | (go_at_call 59; (with_reducible refine (UV.out _).mono ?_); rintro e w1 ⟨rfl, hs1⟩; have HS1 := hide (HS.out.fut (w' := w1))) | (at_mapUpdate; refine wpList_seen rfl (.tmp 36) (.tmp 37) (.const (.bool true)) rfl (m := w.heap.size) (n := k) (ks := ks.take k) (k := q) rfl rfl rfl HS1.out hqs (by simp only [maxLen]; omega) ?_; intro w4 hs4 hg4; have HS4 := hide hs4; have HG4 := hide hg4; clear hs4 hg4))
            go_roundw
            case rel => exact ⟨k + 1, by omega, by go_num, HD2, by rw [← HTK.out]; exact HS4.out, ⟨(hst.below.trans ((fut wo w1).mono hst.size)).trans ⟨HG4.out.os, HG4.out.tape, HG4.out.output, HG4.out.size, fun j hj => HG4.out.block j (Nat.lt_of_lt_of_le hj (Nat.le_trans hst.size (fut wo w1).size)) (by intro e; injection e with e; omega)⟩⟩⟩
            case measure => simp [intOf]; omega
      · obtain rfl : k = nk := by omega
        have HT : Hid (B = true) := by show _ = _; rw [← HF.out, ← HN.out, List.drop_length, keysF]
        clear hlt
        go_wp2_with fail
        go_end0
        obtain rfl : B = true := HT.out
        exact ⟨rfl, hst⟩
  · obtain rfl : B = false := by rw [HB.out, decide_eq_false hnl]; rfl
    have hne : ((nk : Int) != (nl : Int)) = true := bne_iff_ne.2 (by omega)
    go_enter Tryd.func60, Tryd.ntmps60
    go_wp2_with fail
    go_quiet (fail)
    go_wp2_with (go_at_call 23; (with_reducible refine (bad_any _).mono ?_); rintro e w2 ⟨rfl, rfl⟩)
    exact ⟨rfl, rfl, Step.of⟩
end Go.Proofs.YtoibfefalflooaaDoor
