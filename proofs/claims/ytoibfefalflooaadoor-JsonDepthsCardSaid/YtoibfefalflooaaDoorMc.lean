/-
  The law JsonDepths.
-/
import Derived.Test.YtoibfefalflooaaDoorJ6
import Derived.Test.YtoibfefalflooaaDoorMp
namespace Go.Proofs.YtoibfefalflooaaDoor
open Go.RowKit

/-- A value under way: its own block, and what it leads to, behind it. -/
def Way (w : World) (g : Nat) (j : J) : Prop :=
  ∃ (k : Int) (b : Bool) (n : Int) (s : ByteArray) (A : Option Addr) (nl c : Nat) (AK : Option Addr) (nk cK : Nat) (l : List T) (ks : List ByteArray), Blk w g 25 [.int .i64 k, .bool b, .int .i64 n, .string s, .slice A nl c, .slice AK nk cK] ∧ l.length = nl ∧ ks.length = nk ∧ T.j (.mk k b n s A c l AK cK ks) = j ∧ TAt w (fun q => g < q) (.mk k b n s A c l AK cK ks)
theorem Way.fut {w w' : World} {g : Nat} {j : J} (h : Way w g j) [f : Fut w w'] : Way w' g j := by
  obtain ⟨k, b, n, s, A, nl, c, AK, nk, cK, l, ks, h1, h2, h3, h4, h5⟩ := h
  exact ⟨k, b, n, s, A, nl, c, AK, nk, cK, l, ks, h1.fut, h2, h3, h4, TAt.grown (grown_of_below f.below) (fun q _ e => by cases e) h5⟩
theorem fine_dJ (o : Bool) : ∀ k, FineJ (dJ o k)
  | 0 => fine_zero
  | k + 1 => by
    rw [dJ]
    split
    · rw [FineJ]; exact ⟨⟨by show 1 ≤ _; decide, by first | decide | (show 1 ≤ _; decide)⟩, ⟨by decide, by decide⟩, by decide, fun q hq => by rw [List.mem_singleton] at hq; subst hq; decide, by rw [FineJs]; exact ⟨fine_dJ o k, by rw [FineJs]; trivial⟩⟩
    · rw [FineJ]; exact ⟨⟨by show 1 ≤ _; decide, by first | decide | (show 1 ≤ _; decide)⟩, ⟨by decide, by decide⟩, by decide, fun q hq => (by cases hq), by rw [FineJs]; exact ⟨fine_dJ o k, by rw [FineJs]; trivial⟩⟩
set_option maxRecDepth 100000 in
set_option maxHeartbeats 16000000 in
theorem depths_list (many : Int) (w : World) (htb : Tab w) :
    Calls Tryd.prog 7 #[.int .i64 many, .bool false] w fun e w' => e = .returned (.bool true) ∧ Step w w' := by
  have HTB := hide htb
  have AW : Hid (∀ w' (hf : Fut w w'), Calls Tryd.prog 14 #[] w' fun e w'' => e = .returned (.bool true) ∧ Step w' w'') := fun w' hf => awake3_any w' (Tab.fut htb)
  have hM : ∃ M : Nat, bits .and .i64 many 31 = (M : Int) ∧ M < 32 := ⟨(many % 32).toNat, by rw [i64_and31]; omega, by omega⟩
  obtain ⟨M, hM, hM32⟩ := hM
  have NM := hide num_any
  have HFJ := hide (fine_dJ false)
  clear htb
  go_enter Tryd.func7, Tryd.ntmps7
  go_upto_region 5 with (go_at_call 14; (with_reducible refine (AW.out _ inferInstance).mono ?_); rintro e wa ⟨rfl, hsa⟩)
  clear hM
  go_upto_region 6 with fail
  obtain ⟨W1, hW1⟩ : ∃ W : World, W = wa.alloc (.cells #[.int .i64 0, .bool false, .int .i64 0, .string ⟨#[]⟩, .slice none 0 0, .slice none 0 0] 25) := ⟨_, rfl⟩
  have HW : Hid (Way W1 wa.heap.size J.zero) := by
    rw [hW1]
    exact ⟨0, false, 0, ⟨#[]⟩, none, 0, 0, none, 0, 0, [], [], Blk.new wa zeroC 25, rfl, rfl, rfl, TAt.zero _ _⟩
  have SW1 : Step wa W1 := by rw [hW1]; exact Step.of
  rw [← hW1]
  obtain ⟨g, hg⟩ : ∃ g, wa.heap.size = g := ⟨_, rfl⟩
  rw [hg] at HW
  rw [hg]
  have HG := hide hg
  clear hW1 hg
  go_wp2_with fail
  go_loopw [9, 10, 11] (fun v9 v10 v11 wr => ∃ (i : Nat) (s9 s10 : ByteArray), i ≤ M ∧ v9 = .string s9 ∧ v10 = .string s10 ∧ v11 = .int .i64 i ∧ Hid (s9 = ofL (repL (opD false) i) ∧ s10 = ofL (repL (shD false) i)) ∧ s9.size ≤ 160 ∧ s10.size ≤ 160 ∧ Way wr g (dJ false i) ∧ Step w wr) (fun _ _ v11 _ => M - (intOf v11).toNat)
  case atStart => exact ⟨0, ⟨#[]⟩, ⟨#[]⟩, Nat.zero_le _, rfl, rfl, rfl, ⟨rfl, rfl⟩, by decide, by decide, HW.out, Step.of⟩
  case round =>
    obtain ⟨i, s9, s10, hi, rfl, rfl, rfl, HS, h9, h10, hw, hst⟩ := hrel
    have HWY := hide hw
    clear hw HW
    obtain ⟨wo, rfl⟩ : ∃ x : World, x = wr := ⟨_, rfl⟩
    by_cases hlt : i < M
    · have hil : (i : Int) < (M : Int) := by omega
      have hi0 : (i : Int) + 1 ≤ 100 := by omega
      have HS2 : Hid (s9 ++ ⟨#[91]⟩ = ofL (repL (opD false) (i + 1)) ∧ s10 ++ ⟨#[93]⟩ = ofL (repL (shD false) (i + 1))) := by
        refine ⟨?_, ?_⟩
        · rw [HS.out.1, repL, ← ofL_app]; rfl
        · rw [HS.out.2, repL, ← ofL_app]; rfl
      have HZ : Hid ((s9 ++ ⟨#[91]⟩).size ≤ 160 ∧ (s10 ++ ⟨#[93]⟩).size ≤ 160) := by
        refine ⟨?_, ?_⟩
        · rw [HS2.out.1, ofL_size, repL_len]; show (i + 1) * 1 ≤ 160; omega
        · rw [HS2.out.2, ofL_size, repL_len]; show (i + 1) * 1 ≤ 160; omega
      obtain ⟨k1, b1, n1, s1, A1, nl1, c1, AK1, nk1, cK1, l1, ks1, hb1, HL1, HK1, HJ1, ht1⟩ := HWY.out
      have HL1 := hide HL1; have HK1 := hide HK1; have HJ1 := hide HJ1; have HT1 := hide ht1; have HB1 := hide hb1
      obtain ⟨x0, x1, x2, x3, x4, x5⟩ := At.z6 hb1.at0
      have lx := hb1.lt
      have fx := hb1.free
      clear hb1 ht1
      go_upto_region 11 with fail
      clear x0 x1 x2 x3 x4 x5 lx fx
      obtain ⟨W2, hW2⟩ : ∃ W : World, W = set6 wo g (.int .i64 4) (.bool false) (.int .i64 0) (.string ⟨#[]⟩) (.slice (some ⟨wo.heap.size, 0, none⟩) 1 1) (.slice none 0 0) := ⟨_, rfl⟩
      have hs2 : W2.heap.size = wo.heap.size := by rw [hW2]; simp [set6]
      obtain ⟨X, hX⟩ : ∃ X : World, X = W2.alloc (.cells #[.int .i64 k1, .bool b1, .int .i64 n1, .string s1, .slice A1 nl1 c1, .slice AK1 nk1 cK1] 25) := ⟨_, rfl⟩
      have HO : Hid (Own X 0 25 6 (.slice (some ⟨wo.heap.size, 0, none⟩) 1 1) [[.int .i64 k1, .bool b1, .int .i64 n1, .string s1, .slice A1 nl1 c1, .slice AK1 nk1 cK1]]) := by rw [hX]; exact Own.of_blk (Blk.new_at hs2 [.int .i64 k1, .bool b1, .int .i64 n1, .string s1, .slice A1 nl1 c1, .slice AK1 nk1 cK1] 25) (Nat.zero_le _) rfl (by intro x hx; rw [List.mem_singleton] at hx; rw [hx]; rfl) (Nat.le_refl _) (by decide) rfl rfl
      have HOK : Hid (Own X 0 9 1 (.slice none 0 0) (strCells [])) := Own.nil_ _ _ _ _
      have F2 : Fut W2 X := by rw [hX]; exact inferInstance
      have hgo : g < wo.heap.size := HB1.out.lt
      have g6 : wo.grownBy W2 (some g) := by rw [hW2]; exact set6_grown wo g (.int .i64 4) (.bool false) (.int .i64 0) (.string ⟨#[]⟩) (.slice (some ⟨wo.heap.size, 0, none⟩) 1 1) (.slice none 0 0)
      have b6 : Below w.heap.size wo W2 := by rw [hW2]; exact set6_below (w := wo) (n := w.heap.size) (b := g) (by have := (fut w wa).size; have := HG.out; omega) (.int .i64 4) (.bool false) (.int .i64 0) (.string ⟨#[]⟩) (.slice (some ⟨wo.heap.size, 0, none⟩) 1 1) (.slice none 0 0)
      have k6 : Blk W2 g 25 [.int .i64 4, .bool false, .int .i64 0, .string ⟨#[]⟩, .slice (some ⟨wo.heap.size, 0, none⟩) 1 1, .slice none 0 0] := by rw [hW2]; exact set6_blk HB1.out (.int .i64 4) (.bool false) (.int .i64 0) (.string ⟨#[]⟩) (.slice (some ⟨wo.heap.size, 0, none⟩) 1 1) (.slice none 0 0)
      have HWN : Hid (Way X g (dJ false (i + 1))) := by
        refine ⟨4, false, 0, ⟨#[]⟩, some ⟨wo.heap.size, 0, none⟩, 1, 1, none, 0, 0, [.mk k1 b1 n1 s1 A1 c1 l1 AK1 cK1 ks1], [], k6.fut, rfl, rfl, ?_, ?_⟩
        · rw [T.j, T.js, T.js, HJ1.out]; rfl
        · rw [TAt]
          refine ⟨?_, ?_, fun q e => ?_, fun q e => ?_, ?_⟩
          · rw [List.map_cons, T.cells, HL1.out, HK1.out]
            exact HO.out
          · exact HOK.out
          · simp [ob] at e; omega
          · simp [ob] at e; try omega
          · rw [TAts]
            exact ⟨TAt.grown (grown_of_below F2.below) (fun q _ e => by cases e) (TAt.grown g6 (fun q hq e2 => by injection e2 with e2; omega) HT1.out), by rw [TAts]; trivial⟩
      have SF : Below w.heap.size w X := (hst.below.trans b6).trans (F2.below.mono (by have := hst.size; omega))
      unfold set6 at hW2
      rw [← hW2, ← hX]
      clear hW2 hX g6 k6 b6
      go_wp2_with fail
      go_roundw
      case rel => exact ⟨i + 1, s9 ++ ⟨#[91]⟩, s10 ++ ⟨#[93]⟩, by omega, rfl, rfl, by go_num, HS2, HZ.out.1, HZ.out.2, HWN.out, ⟨SF⟩⟩
      case measure => simp [intOf]; omega
    · obtain rfl : i = M := by omega
      clear hlt
      obtain ⟨k1, b1, n1, s1, A1, nl1, c1, AK1, nk1, cK1, l1, ks1, hb1, HL1, HK1, HJ1, ht1⟩ := HWY.out
      have HB1 := hide hb1
      have HRD : Hid (Rdd wo (dJ false i) k1 b1 n1 s1 A1 nl1 c1 AK1 nk1 cK1) := ⟨l1, ks1, HL1, HK1, HJ1, ht1.rd (by rw [HJ1]; exact HFJ.out i)⟩
      have HTX : Hid (s9 ++ ⟨#[110, 117, 108, 108]⟩ ++ s10 = ofL (dT false i)) := by
        show _ = _
        rw [HS.out.1, HS.out.2, dT, ← ofL_app, ← ofL_app]
        rfl
      have hsz4 : (s9 ++ ⟨#[110, 117, 108, 108]⟩).size ≤ 164 := by rw [ByteArray.size_append]; show _ + 4 ≤ _; omega
      have hszT : (s9 ++ ⟨#[110, 117, 108, 108]⟩ ++ s10).size ≤ 324 := by rw [ByteArray.size_append]; omega
      obtain ⟨tx, htx⟩ : ∃ t, s9 ++ ⟨#[110, 117, 108, 108]⟩ ++ s10 = t := ⟨_, rfl⟩
      have PA := fun w' => parse_rdd (s9 ++ ⟨#[110, 117, 108, 108]⟩ ++ s10) w' (by omega)
      have PR : ∀ w' (hf : Fut wo w'), Calls Tryd.prog 15 #[.agg #[.int .i64 k1, .bool b1, .int .i64 n1, .string s1, .slice A1 nl1 c1, .slice AK1 nk1 cK1]] w' fun e w'' => e = .returned (.tuple #[.string (printP (dJ false i)).1, .int .i64 (printP (dJ false i)).2]) ∧ Step w' w'' := fun w' hf => by
        have hst3 : Step wo w' := ⟨hf.below⟩
        exact print_rdd wo HRD.out w' (Tab.fut (w := w) HTB.out)
      rw [HTX.out] at PA
      rw [HTX.out] at hszT
      clear HWY hb1 ht1 HL1 HK1 HJ1
      by_cases hdp : 16 < i
      · obtain ⟨hp1, hp2⟩ := deep_no hM32 hdp false
        rw [hp2] at PR
        rw [hp1] at PA
        rw [← HTX.out] at PA
        have PA : Hid (∀ w', Calls Tryd.prog 10 #[.string (s9 ++ ⟨#[110, 117, 108, 108]⟩ ++ s10)] w' fun e w'' => (∃ (k2 : Int) (b2 : Bool) (n2 : Int) (s2 : ByteArray) (A2 : Option Addr) (nl2 c2 : Nat) (AK2 : Option Addr) (nk2 cK2 : Nat), e = .returned (.tuple #[.agg #[.int .i64 k2, .bool b2, .int .i64 n2, .string s2, .slice A2 nl2 c2, .slice AK2 nk2 cK2], .int .i64 301])) ∧ Step w' w'') := fun w' => (PA w').mono fun e w'' hh => by
          obtain ⟨⟨k2, b2, n2, s2, A2, nl2, c2, AK2, nk2, cK2, h1, h2⟩, h3⟩ := hh
          exact ⟨⟨k2, b2, n2, s2, A2, nl2, c2, AK2, nk2, cK2, h1⟩, h3⟩
        have PR := hide PR
        have hdi : (i : Int) > 16 := by omega
        clear hp1 hp2 hszT htx hdp
        go_upto_region 18 with (go_at_call 10; (with_reducible refine (PA.out _).mono ?_); rintro e w3 ⟨⟨k2, b2, n2, s2, A2, nl2, c2, AK2, nk2, cK2, rfl⟩, hs3⟩)
        obtain ⟨W2, hW2⟩ : ∃ W : World, W = w3.alloc (.cells #[.int .i64 k2, .bool b2, .int .i64 n2, .string s2, .slice A2 nl2 c2, .slice AK2 nk2 cK2] 25) := ⟨_, rfl⟩
        have HB2 : Hid (Blk W2 w3.heap.size 25 [.int .i64 k2, .bool b2, .int .i64 n2, .string s2, .slice A2 nl2 c2, .slice AK2 nk2 cK2]) := by rw [hW2]; exact Blk.new w3 _ 25
        have SW2 : Step w3 W2 := by rw [hW2]; exact Step.of
        rw [← hW2]
        clear hW2
        obtain ⟨x0, x1, x2, x3, x4, x5⟩ := At.z6 (HB1.out.fut (w' := W2)).at0
        have lx := (HB1.out.fut (w' := W2)).lt
        go_wp2_with (first | (go_at_call 15; (with_reducible refine (PR.out _ inferInstance).mono ?_); rintro e w4 ⟨rfl, hs4⟩; clear x0 x1 x2 x3 x4 x5 lx) | (go_at_call 13; (with_reducible refine (NM.out _ _).mono ?_); rintro e w6 ⟨rfl, rfl⟩))
        go_ret
        exact ⟨rfl, Step.of⟩
      · obtain ⟨hp1, hp2⟩ := deep_ok (k := i) (by omega) false
        rw [hp2] at PR
        rw [hp1] at PA
        rw [← HTX.out] at PA PR
        have PA : Hid (∀ w', Calls Tryd.prog 10 #[.string (s9 ++ ⟨#[110, 117, 108, 108]⟩ ++ s10)] w' fun e w'' => (∃ (k2 : Int) (b2 : Bool) (n2 : Int) (s2 : ByteArray) (A2 : Option Addr) (nl2 c2 : Nat) (AK2 : Option Addr) (nk2 cK2 : Nat), e = .returned (.tuple #[.agg #[.int .i64 k2, .bool b2, .int .i64 n2, .string s2, .slice A2 nl2 c2, .slice AK2 nk2 cK2], .int .i64 0]) ∧ Rdd w'' (dJ false i) k2 b2 n2 s2 A2 nl2 c2 AK2 nk2 cK2) ∧ Step w' w'') := PA
        have PR := hide PR
        have hdi : ¬ (i : Int) > 16 := by omega
        clear hp1 hp2 hszT htx hdp
        go_upto_region 18 with (go_at_call 10; (with_reducible refine (PA.out _).mono ?_); rintro e w3 ⟨⟨k2, b2, n2, s2, A2, nl2, c2, AK2, nk2, cK2, rfl, hr2⟩, hs3⟩; have HR2 := hide hr2; clear hr2)
        obtain ⟨W2, hW2⟩ : ∃ W : World, W = w3.alloc (.cells #[.int .i64 k2, .bool b2, .int .i64 n2, .string s2, .slice A2 nl2 c2, .slice AK2 nk2 cK2] 25) := ⟨_, rfl⟩
        have HB2 : Hid (Blk W2 w3.heap.size 25 [.int .i64 k2, .bool b2, .int .i64 n2, .string s2, .slice A2 nl2 c2, .slice AK2 nk2 cK2]) := by rw [hW2]; exact Blk.new w3 _ 25
        have SW2 : Step w3 W2 := by rw [hW2]; exact Step.of
        rw [← hW2]
        clear hW2
        have SJ := hide (fun (w' : World) (h1 : Fut W2 w') => (by
          have hst3 : Step W2 w' := ⟨h1.below⟩
          exact same_rdd (j := dJ false i) w3 wo HR2.out HRD.out w' : Calls Tryd.prog 12 #[.agg #[.int .i64 k2, .bool b2, .int .i64 n2, .string s2, .slice A2 nl2 c2, .slice AK2 nk2 cK2], .agg #[.int .i64 k1, .bool b1, .int .i64 n1, .string s1, .slice A1 nl1 c1, .slice AK1 nk1 cK1]] w' fun e w'' => e = .returned (.bool true) ∧ Step w' w''))
        obtain ⟨x0, x1, x2, x3, x4, x5⟩ := At.z6 (HB1.out.fut (w' := W2)).at0
        have lx := (HB1.out.fut (w' := W2)).lt
        go_upto_region 19 with (first | (go_at_call 15; (with_reducible refine (PR.out _ inferInstance).mono ?_); rintro e w4 ⟨rfl, hs4⟩; clear x0 x1 x2 x3 x4 x5 lx))
        obtain ⟨x0, x1, x2, x3, x4, x5⟩ := At.z6 (HB1.out.fut (w' := w4)).at0
        have lx := (HB1.out.fut (w' := w4)).lt
        obtain ⟨y0, y1, y2, y3, y4, y5⟩ := At.z6 (HB2.out.fut (w' := w4)).at0
        have ly := (HB2.out.fut (w' := w4)).lt
        go_wp2_with (first | (go_at_call 13; (with_reducible refine (NM.out _ _).mono ?_); rintro e w6 ⟨rfl, rfl⟩) | (go_at_call 12; (with_reducible refine (SJ.out _ inferInstance).mono ?_); rintro e w7 ⟨rfl, hs7⟩; clear x0 x1 x2 x3 x4 x5 lx y0 y1 y2 y3 y4 y5 ly))
        go_ret
        exact ⟨rfl, Step.of⟩
set_option maxRecDepth 100000 in
set_option maxHeartbeats 16000000 in
theorem depths_obj (many : Int) (w : World) (htb : Tab w) :
    Calls Tryd.prog 7 #[.int .i64 many, .bool true] w fun e w' => e = .returned (.bool true) ∧ Step w w' := by
  have HTB := hide htb
  have AW : Hid (∀ w' (hf : Fut w w'), Calls Tryd.prog 14 #[] w' fun e w'' => e = .returned (.bool true) ∧ Step w' w'') := fun w' hf => awake3_any w' (Tab.fut htb)
  have hM : ∃ M : Nat, bits .and .i64 many 31 = (M : Int) ∧ M < 32 := ⟨(many % 32).toNat, by rw [i64_and31]; omega, by omega⟩
  obtain ⟨M, hM, hM32⟩ := hM
  have NM := hide num_any
  have HFJ := hide (fine_dJ true)
  clear htb
  go_enter Tryd.func7, Tryd.ntmps7
  go_upto_region 5 with (go_at_call 14; (with_reducible refine (AW.out _ inferInstance).mono ?_); rintro e wa ⟨rfl, hsa⟩)
  clear hM
  go_upto_region 6 with fail
  obtain ⟨W1, hW1⟩ : ∃ W : World, W = wa.alloc (.cells #[.int .i64 0, .bool false, .int .i64 0, .string ⟨#[]⟩, .slice none 0 0, .slice none 0 0] 25) := ⟨_, rfl⟩
  have HW : Hid (Way W1 wa.heap.size J.zero) := by
    rw [hW1]
    exact ⟨0, false, 0, ⟨#[]⟩, none, 0, 0, none, 0, 0, [], [], Blk.new wa zeroC 25, rfl, rfl, rfl, TAt.zero _ _⟩
  have SW1 : Step wa W1 := by rw [hW1]; exact Step.of
  rw [← hW1]
  obtain ⟨g, hg⟩ : ∃ g, wa.heap.size = g := ⟨_, rfl⟩
  rw [hg] at HW
  rw [hg]
  have HG := hide hg
  clear hW1 hg
  go_wp2_with fail
  go_loopw [9, 10, 11] (fun v9 v10 v11 wr => ∃ (i : Nat) (s9 s10 : ByteArray), i ≤ M ∧ v9 = .string s9 ∧ v10 = .string s10 ∧ v11 = .int .i64 i ∧ Hid (s9 = ofL (repL (opD true) i) ∧ s10 = ofL (repL (shD true) i)) ∧ s9.size ≤ 160 ∧ s10.size ≤ 160 ∧ Way wr g (dJ true i) ∧ Step w wr) (fun _ _ v11 _ => M - (intOf v11).toNat)
  case atStart => exact ⟨0, ⟨#[]⟩, ⟨#[]⟩, Nat.zero_le _, rfl, rfl, rfl, ⟨rfl, rfl⟩, by decide, by decide, HW.out, Step.of⟩
  case round =>
    obtain ⟨i, s9, s10, hi, rfl, rfl, rfl, HS, h9, h10, hw, hst⟩ := hrel
    have HWY := hide hw
    clear hw HW
    obtain ⟨wo, rfl⟩ : ∃ x : World, x = wr := ⟨_, rfl⟩
    by_cases hlt : i < M
    · have hil : (i : Int) < (M : Int) := by omega
      have hi0 : (i : Int) + 1 ≤ 100 := by omega
      have HS2 : Hid (s9 ++ ⟨#[123, 34, 107, 34, 58]⟩ = ofL (repL (opD true) (i + 1)) ∧ s10 ++ ⟨#[125]⟩ = ofL (repL (shD true) (i + 1))) := by
        refine ⟨?_, ?_⟩
        · rw [HS.out.1, repL, ← ofL_app]; rfl
        · rw [HS.out.2, repL, ← ofL_app]; rfl
      have HZ : Hid ((s9 ++ ⟨#[123, 34, 107, 34, 58]⟩).size ≤ 160 ∧ (s10 ++ ⟨#[125]⟩).size ≤ 160) := by
        refine ⟨?_, ?_⟩
        · rw [HS2.out.1, ofL_size, repL_len]; show (i + 1) * 5 ≤ 160; omega
        · rw [HS2.out.2, ofL_size, repL_len]; show (i + 1) * 1 ≤ 160; omega
      obtain ⟨k1, b1, n1, s1, A1, nl1, c1, AK1, nk1, cK1, l1, ks1, hb1, HL1, HK1, HJ1, ht1⟩ := HWY.out
      have HL1 := hide HL1; have HK1 := hide HK1; have HJ1 := hide HJ1; have HT1 := hide ht1; have HB1 := hide hb1
      obtain ⟨x0, x1, x2, x3, x4, x5⟩ := At.z6 hb1.at0
      have lx := hb1.lt
      have fx := hb1.free
      clear hb1 ht1
      go_upto_region 11 with fail
      clear x0 x1 x2 x3 x4 x5 lx fx
      obtain ⟨W2, hW2⟩ : ∃ W : World, W = set6 wo g (.int .i64 5) (.bool false) (.int .i64 0) (.string ⟨#[]⟩) (.slice (some ⟨wo.heap.size, 0, none⟩) 1 1) (.slice (some ⟨wo.heap.size + 1, 0, none⟩) 1 1) := ⟨_, rfl⟩
      have hs2 : W2.heap.size = wo.heap.size := by rw [hW2]; simp [set6]
      obtain ⟨X, hX⟩ : ∃ X : World, X = (W2.alloc (.cells #[.int .i64 k1, .bool b1, .int .i64 n1, .string s1, .slice A1 nl1 c1, .slice AK1 nk1 cK1] 25)).alloc (.cells #[.string ⟨#[107]⟩] 9) := ⟨_, rfl⟩
      have HO : Hid (Own X 0 25 6 (.slice (some ⟨wo.heap.size, 0, none⟩) 1 1) [[.int .i64 k1, .bool b1, .int .i64 n1, .string s1, .slice A1 nl1 c1, .slice AK1 nk1 cK1]]) := by rw [hX]; exact (Own.of_blk (Blk.new_at hs2 [.int .i64 k1, .bool b1, .int .i64 n1, .string s1, .slice A1 nl1 c1, .slice AK1 nk1 cK1] 25) (Nat.zero_le _) rfl (by intro x hx; rw [List.mem_singleton] at hx; rw [hx]; rfl) (Nat.le_refl 1) (show 1 ≤ maxLen by decide) rfl rfl).alloc _
      have HOK : Hid (Own X 0 9 1 (.slice (some ⟨wo.heap.size + 1, 0, none⟩) 1 1) (strCells [⟨#[107]⟩])) := by rw [hX]; exact Own.of_blk (Blk.new_at (by simp [hs2]) [.string ⟨#[107]⟩] 9) (Nat.zero_le _) rfl (keys_fit _).len (Nat.le_refl _) (by decide) rfl rfl
      have F2 : Fut W2 X := by rw [hX]; exact inferInstance
      have hgo : g < wo.heap.size := HB1.out.lt
      have g6 : wo.grownBy W2 (some g) := by rw [hW2]; exact set6_grown wo g (.int .i64 5) (.bool false) (.int .i64 0) (.string ⟨#[]⟩) (.slice (some ⟨wo.heap.size, 0, none⟩) 1 1) (.slice (some ⟨wo.heap.size + 1, 0, none⟩) 1 1)
      have b6 : Below w.heap.size wo W2 := by rw [hW2]; exact set6_below (w := wo) (n := w.heap.size) (b := g) (by have := (fut w wa).size; have := HG.out; omega) (.int .i64 5) (.bool false) (.int .i64 0) (.string ⟨#[]⟩) (.slice (some ⟨wo.heap.size, 0, none⟩) 1 1) (.slice (some ⟨wo.heap.size + 1, 0, none⟩) 1 1)
      have k6 : Blk W2 g 25 [.int .i64 5, .bool false, .int .i64 0, .string ⟨#[]⟩, .slice (some ⟨wo.heap.size, 0, none⟩) 1 1, .slice (some ⟨wo.heap.size + 1, 0, none⟩) 1 1] := by rw [hW2]; exact set6_blk HB1.out (.int .i64 5) (.bool false) (.int .i64 0) (.string ⟨#[]⟩) (.slice (some ⟨wo.heap.size, 0, none⟩) 1 1) (.slice (some ⟨wo.heap.size + 1, 0, none⟩) 1 1)
      have HWN : Hid (Way X g (dJ true (i + 1))) := by
        refine ⟨5, false, 0, ⟨#[]⟩, some ⟨wo.heap.size, 0, none⟩, 1, 1, (some ⟨wo.heap.size + 1, 0, none⟩), 1, 1, [.mk k1 b1 n1 s1 A1 c1 l1 AK1 cK1 ks1], [⟨#[107]⟩], k6.fut, rfl, rfl, ?_, ?_⟩
        · rw [T.j, T.js, T.js, HJ1.out]; rfl
        · rw [TAt]
          refine ⟨?_, ?_, fun q e => ?_, fun q e => ?_, ?_⟩
          · rw [List.map_cons, T.cells, HL1.out, HK1.out]
            exact HO.out
          · exact HOK.out
          · simp [ob] at e; omega
          · simp [ob] at e; try omega
          · rw [TAts]
            exact ⟨TAt.grown (grown_of_below F2.below) (fun q _ e => by cases e) (TAt.grown g6 (fun q hq e2 => by injection e2 with e2; omega) HT1.out), by rw [TAts]; trivial⟩
      have SF : Below w.heap.size w X := (hst.below.trans b6).trans (F2.below.mono (by have := hst.size; omega))
      unfold set6 at hW2
      rw [← hW2, ← hX]
      clear hW2 hX g6 k6 b6
      go_wp2_with fail
      go_roundw
      case rel => exact ⟨i + 1, s9 ++ ⟨#[123, 34, 107, 34, 58]⟩, s10 ++ ⟨#[125]⟩, by omega, rfl, rfl, by go_num, HS2, HZ.out.1, HZ.out.2, HWN.out, ⟨SF⟩⟩
      case measure => simp [intOf]; omega
    · obtain rfl : i = M := by omega
      clear hlt
      obtain ⟨k1, b1, n1, s1, A1, nl1, c1, AK1, nk1, cK1, l1, ks1, hb1, HL1, HK1, HJ1, ht1⟩ := HWY.out
      have HB1 := hide hb1
      have HRD : Hid (Rdd wo (dJ true i) k1 b1 n1 s1 A1 nl1 c1 AK1 nk1 cK1) := ⟨l1, ks1, HL1, HK1, HJ1, ht1.rd (by rw [HJ1]; exact HFJ.out i)⟩
      have HTX : Hid (s9 ++ ⟨#[110, 117, 108, 108]⟩ ++ s10 = ofL (dT true i)) := by
        show _ = _
        rw [HS.out.1, HS.out.2, dT, ← ofL_app, ← ofL_app]
        rfl
      have hsz4 : (s9 ++ ⟨#[110, 117, 108, 108]⟩).size ≤ 164 := by rw [ByteArray.size_append]; show _ + 4 ≤ _; omega
      have hszT : (s9 ++ ⟨#[110, 117, 108, 108]⟩ ++ s10).size ≤ 324 := by rw [ByteArray.size_append]; omega
      obtain ⟨tx, htx⟩ : ∃ t, s9 ++ ⟨#[110, 117, 108, 108]⟩ ++ s10 = t := ⟨_, rfl⟩
      have PA := fun w' => parse_rdd (s9 ++ ⟨#[110, 117, 108, 108]⟩ ++ s10) w' (by omega)
      have PR : ∀ w' (hf : Fut wo w'), Calls Tryd.prog 15 #[.agg #[.int .i64 k1, .bool b1, .int .i64 n1, .string s1, .slice A1 nl1 c1, .slice AK1 nk1 cK1]] w' fun e w'' => e = .returned (.tuple #[.string (printP (dJ true i)).1, .int .i64 (printP (dJ true i)).2]) ∧ Step w' w'' := fun w' hf => by
        have hst3 : Step wo w' := ⟨hf.below⟩
        exact print_rdd wo HRD.out w' (Tab.fut (w := w) HTB.out)
      rw [HTX.out] at PA
      rw [HTX.out] at hszT
      clear HWY hb1 ht1 HL1 HK1 HJ1
      by_cases hdp : 16 < i
      · obtain ⟨hp1, hp2⟩ := deep_no hM32 hdp true
        rw [hp2] at PR
        rw [hp1] at PA
        rw [← HTX.out] at PA
        have PA : Hid (∀ w', Calls Tryd.prog 10 #[.string (s9 ++ ⟨#[110, 117, 108, 108]⟩ ++ s10)] w' fun e w'' => (∃ (k2 : Int) (b2 : Bool) (n2 : Int) (s2 : ByteArray) (A2 : Option Addr) (nl2 c2 : Nat) (AK2 : Option Addr) (nk2 cK2 : Nat), e = .returned (.tuple #[.agg #[.int .i64 k2, .bool b2, .int .i64 n2, .string s2, .slice A2 nl2 c2, .slice AK2 nk2 cK2], .int .i64 301])) ∧ Step w' w'') := fun w' => (PA w').mono fun e w'' hh => by
          obtain ⟨⟨k2, b2, n2, s2, A2, nl2, c2, AK2, nk2, cK2, h1, h2⟩, h3⟩ := hh
          exact ⟨⟨k2, b2, n2, s2, A2, nl2, c2, AK2, nk2, cK2, h1⟩, h3⟩
        have PR := hide PR
        have hdi : (i : Int) > 16 := by omega
        clear hp1 hp2 hszT htx hdp
        go_upto_region 18 with (go_at_call 10; (with_reducible refine (PA.out _).mono ?_); rintro e w3 ⟨⟨k2, b2, n2, s2, A2, nl2, c2, AK2, nk2, cK2, rfl⟩, hs3⟩)
        obtain ⟨W2, hW2⟩ : ∃ W : World, W = w3.alloc (.cells #[.int .i64 k2, .bool b2, .int .i64 n2, .string s2, .slice A2 nl2 c2, .slice AK2 nk2 cK2] 25) := ⟨_, rfl⟩
        have HB2 : Hid (Blk W2 w3.heap.size 25 [.int .i64 k2, .bool b2, .int .i64 n2, .string s2, .slice A2 nl2 c2, .slice AK2 nk2 cK2]) := by rw [hW2]; exact Blk.new w3 _ 25
        have SW2 : Step w3 W2 := by rw [hW2]; exact Step.of
        rw [← hW2]
        clear hW2
        obtain ⟨x0, x1, x2, x3, x4, x5⟩ := At.z6 (HB1.out.fut (w' := W2)).at0
        have lx := (HB1.out.fut (w' := W2)).lt
        go_wp2_with (first | (go_at_call 15; (with_reducible refine (PR.out _ inferInstance).mono ?_); rintro e w4 ⟨rfl, hs4⟩; clear x0 x1 x2 x3 x4 x5 lx) | (go_at_call 13; (with_reducible refine (NM.out _ _).mono ?_); rintro e w6 ⟨rfl, rfl⟩))
        go_ret
        exact ⟨rfl, Step.of⟩
      · obtain ⟨hp1, hp2⟩ := deep_ok (k := i) (by omega) true
        rw [hp2] at PR
        rw [hp1] at PA
        rw [← HTX.out] at PA PR
        have PA : Hid (∀ w', Calls Tryd.prog 10 #[.string (s9 ++ ⟨#[110, 117, 108, 108]⟩ ++ s10)] w' fun e w'' => (∃ (k2 : Int) (b2 : Bool) (n2 : Int) (s2 : ByteArray) (A2 : Option Addr) (nl2 c2 : Nat) (AK2 : Option Addr) (nk2 cK2 : Nat), e = .returned (.tuple #[.agg #[.int .i64 k2, .bool b2, .int .i64 n2, .string s2, .slice A2 nl2 c2, .slice AK2 nk2 cK2], .int .i64 0]) ∧ Rdd w'' (dJ true i) k2 b2 n2 s2 A2 nl2 c2 AK2 nk2 cK2) ∧ Step w' w'') := PA
        have PR := hide PR
        have hdi : ¬ (i : Int) > 16 := by omega
        clear hp1 hp2 hszT htx hdp
        go_upto_region 18 with (go_at_call 10; (with_reducible refine (PA.out _).mono ?_); rintro e w3 ⟨⟨k2, b2, n2, s2, A2, nl2, c2, AK2, nk2, cK2, rfl, hr2⟩, hs3⟩; have HR2 := hide hr2; clear hr2)
        obtain ⟨W2, hW2⟩ : ∃ W : World, W = w3.alloc (.cells #[.int .i64 k2, .bool b2, .int .i64 n2, .string s2, .slice A2 nl2 c2, .slice AK2 nk2 cK2] 25) := ⟨_, rfl⟩
        have HB2 : Hid (Blk W2 w3.heap.size 25 [.int .i64 k2, .bool b2, .int .i64 n2, .string s2, .slice A2 nl2 c2, .slice AK2 nk2 cK2]) := by rw [hW2]; exact Blk.new w3 _ 25
        have SW2 : Step w3 W2 := by rw [hW2]; exact Step.of
        rw [← hW2]
        clear hW2
        have SJ := hide (fun (w' : World) (h1 : Fut W2 w') => (by
          have hst3 : Step W2 w' := ⟨h1.below⟩
          exact same_rdd (j := dJ true i) w3 wo HR2.out HRD.out w' : Calls Tryd.prog 12 #[.agg #[.int .i64 k2, .bool b2, .int .i64 n2, .string s2, .slice A2 nl2 c2, .slice AK2 nk2 cK2], .agg #[.int .i64 k1, .bool b1, .int .i64 n1, .string s1, .slice A1 nl1 c1, .slice AK1 nk1 cK1]] w' fun e w'' => e = .returned (.bool true) ∧ Step w' w''))
        obtain ⟨x0, x1, x2, x3, x4, x5⟩ := At.z6 (HB1.out.fut (w' := W2)).at0
        have lx := (HB1.out.fut (w' := W2)).lt
        go_upto_region 19 with (first | (go_at_call 15; (with_reducible refine (PR.out _ inferInstance).mono ?_); rintro e w4 ⟨rfl, hs4⟩; clear x0 x1 x2 x3 x4 x5 lx))
        obtain ⟨x0, x1, x2, x3, x4, x5⟩ := At.z6 (HB1.out.fut (w' := w4)).at0
        have lx := (HB1.out.fut (w' := w4)).lt
        obtain ⟨y0, y1, y2, y3, y4, y5⟩ := At.z6 (HB2.out.fut (w' := w4)).at0
        have ly := (HB2.out.fut (w' := w4)).lt
        go_wp2_with (first | (go_at_call 13; (with_reducible refine (NM.out _ _).mono ?_); rintro e w6 ⟨rfl, rfl⟩) | (go_at_call 12; (with_reducible refine (SJ.out _ inferInstance).mono ?_); rintro e w7 ⟨rfl, hs7⟩; clear x0 x1 x2 x3 x4 x5 lx y0 y1 y2 y3 y4 y5 ly))
        go_ret
        exact ⟨rfl, Step.of⟩
theorem jsonDepths_any (many : Int) (o : Bool) (w : World) (htb : Tab w) :
    Calls Tryd.prog 7 #[.int .i64 many, .bool o] w fun e w' => e = .returned (.bool true) ∧ Step w w' := by
  cases o with
  | true => exact depths_obj many w htb
  | false => exact depths_list many w htb
end Go.Proofs.YtoibfefalflooaaDoor
