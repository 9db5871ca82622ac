/-
  The law JsonParses.
-/
import Derived.Test.YtoibfefalflooaaDoorJ6
import Derived.Test.YtoibfefalflooaaDoorFa
namespace Go.Proofs.YtoibfefalflooaaDoor
open Go.RowKit

/-- A tree in blocks of its own, by its cells. -/
def Td (w : World) (B : Nat) (j : J) (k : Int) (b : Bool) (n : Int) (s : ByteArray) (A : Option Addr) (nl c : Nat) (AK : Option Addr) (nk cK : Nat) : Prop :=
  ∃ (l : List T) (ks : List ByteArray), l.length = nl ∧ ks.length = nk ∧ T.j (.mk k b n s A c l AK cK ks) = j ∧ TAt w (fun q => B ≤ q) (.mk k b n s A c l AK cK ks)
section
variable {w w2 : World} {B : Nat} {j : J} {k : Int} {b : Bool} {n : Int} {s : ByteArray} {A : Option Addr} {nl c : Nat} {AK : Option Addr} {nk cK : Nat}
theorem Td.of {t : T} (h : TAt w (fun q => B ≤ q) t) (hj : t.j = j) : ∃ (k : Int) (b : Bool) (n : Int) (s : ByteArray) (A : Option Addr) (nl c : Nat) (AK : Option Addr) (nk cK : Nat), t.cells = [.int .i64 k, .bool b, .int .i64 n, .string s, .slice A nl c, .slice AK nk cK] ∧ Td w B j k b n s A nl c AK nk cK := by
  cases t with
  | mk k b n s A c l AK cK ks => exact ⟨k, b, n, s, A, l.length, c, AK, ks.length, cK, rfl, l, ks, rfl, rfl, hj, h⟩
theorem Td.rdd (h : Td w B j k b n s A nl c AK nk cK) (hf : FineJ j) : Rdd w j k b n s A nl c AK nk cK :=
  let ⟨l, ks, h1, h2, h3, h4⟩ := h
  ⟨l, ks, h1, h2, h3, h4.rd (by rw [h3]; exact hf)⟩
theorem Td.step (h : Td w B j k b n s A nl c AK nk cK) (hs : Below w.heap.size w w2) : Td w2 B j k b n s A nl c AK nk cK :=
  let ⟨l, ks, h1, h2, h3, h4⟩ := h
  ⟨l, ks, h1, h2, h3, TAt.grown (row := none) (grown_of_below_ hs) (fun q _ e => by cases e) h4⟩
theorem Td.other (h : Td w B j k b n s A nl c AK nk cK) {q : Nat} (hg : w.grownBy w2 (some q)) (hq : q < B ∨ w.heap.size ≤ q) : Td w2 B j k b n s A nl c AK nk cK :=
  let ⟨l, ks, h1, h2, h3, h4⟩ := h
  ⟨l, ks, h1, h2, h3, TAt.weak (fun _ hk => hk.1) (TAt.grown hg (fun p hp e => by injection e with e; omega) (TAt.lt h4))⟩
theorem own_row {base : Nat} {e : TypeId} {size cap : Nat} {l : List (List Value)} (h : Own w base e size (.slice A n.toNat cap) l) : (A = none ∧ n.toNat = 0) ∨ ∃ (q : Nat) (cs : List Value), A = some ⟨q, 0, none⟩ ∧ base ≤ q ∧ Blk w q e cs ∧ n.toNat * size ≤ cs.length := by
  rcases h.2 with ⟨h1, h2⟩ | ⟨g, cap', cur, hv, hb, hh, h3, _, h5, _⟩
  · injection h1 with e1 e2 e3
    exact .inl ⟨e1, e2⟩
  · injection hv with e1 e2 e3
    subst e3
    refine .inr ⟨g, cur.toList, e1, hb, ?_, ?_⟩
    · unfold Blk
      rw [hh]
    · rw [Array.length_toList, h5]
      have : l.length ≤ cap := h3
      rw [← e2] at this
      exact Nat.mul_le_mul_right _ this
/-- Where a tree's own lists lie. -/
theorem Td.rows (h : Td w B j k b n s A nl c AK nk cK) (big : Nat) : ∃ qL qK : Nat,
    ((big ≤ qL ∧ nl = 0) ∨ (B ≤ qL ∧ qL < w.heap.size ∧ A = some ⟨qL, 0, none⟩ ∧ ∃ cs, Blk w qL 25 cs ∧ nl * 6 ≤ cs.length)) ∧
    ((big ≤ qK ∧ nk = 0) ∨ (B ≤ qK ∧ qK < w.heap.size ∧ AK = some ⟨qK, 0, none⟩ ∧ ∃ cs, Blk w qK 9 cs ∧ nk ≤ cs.length)) := by
  obtain ⟨l, ks, rfl, rfl, _, h4⟩ := h
  rw [TAt] at h4
  obtain ⟨h1, h2, h3, h5, _⟩ := h4
  have e1 := own_row (n := (l.length : Int)) h1
  have e2 := own_row (n := (ks.length : Int)) h2
  rw [Int.toNat_natCast] at e1 e2
  rcases e1 with ⟨a1, a2⟩ | ⟨q, cs, a1, _, a3, a4⟩
  · rcases e2 with ⟨b1, b2⟩ | ⟨p, ds, b1, _, b3, b4⟩
    · exact ⟨big, big, .inl ⟨Nat.le_refl _, a2⟩, .inl ⟨Nat.le_refl _, b2⟩⟩
    · exact ⟨big, p, .inl ⟨Nat.le_refl _, a2⟩, .inr ⟨h5 p (by rw [b1]; rfl), b3.lt, b1, ds, b3, by omega⟩⟩
  · rcases e2 with ⟨b1, b2⟩ | ⟨p, ds, b1, _, b3, b4⟩
    · exact ⟨q, big, .inr ⟨h3 q (by rw [a1]; rfl), a3.lt, a1, cs, a3, a4⟩, .inl ⟨Nat.le_refl _, b2⟩⟩
    · exact ⟨q, p, .inr ⟨h3 q (by rw [a1]; rfl), a3.lt, a1, cs, a3, a4⟩, .inr ⟨h5 p (by rw [b1]; rfl), b3.lt, b1, ds, b3, by omega⟩⟩
end
theorem grown_widen {a b c : World} {q : Nat} (h : a.grownBy b (some q)) (k : b.grownBy c (some q)) : a.grownBy c (some q) := grown_trans h k

set_option maxRecDepth 100000 in
set_option maxHeartbeats 16000000 in
theorem jsonParses_any (s : ByteArray) (w : World) (htb : Tab w) (hs : s.size ≤ 9223372036854775807) :
    Calls Tryd.prog 3 #[.string s] w fun e w' => e = .returned (.bool true) ∧ Step w w' := by
  have HTB := hide htb
  have AW : Hid (∀ w' (hf : Tab w'), Calls Tryd.prog 14 #[] w' fun e w'' => e = .returned (.bool true) ∧ Step w' w'') := fun w' hf => awake3_any w' hf
  have NM := hide num_any
  have HFN := hide (parse_fine s)
  obtain ⟨J0, hJ0⟩ : ∃ J0, (parseP s).1 = J0 := ⟨_, rfl⟩
  obtain ⟨E0, hE0⟩ : ∃ E0, (parseP s).2 = E0 := ⟨_, rfl⟩
  have HFN : Hid (FineJ J0) := by rw [← hJ0]; exact HFN.out
  have PA : Hid (∀ w', Calls Tryd.prog 10 #[.string s] w' fun e w'' => (∃ (k1 : Int) (b1 : Bool) (n1 : Int) (s1 : ByteArray) (A1 : Option Addr) (nl1 c1 : Nat) (AK1 : Option Addr) (nk1 cK1 : Nat), e = .returned (.tuple #[.agg #[.int .i64 k1, .bool b1, .int .i64 n1, .string s1, .slice A1 nl1 c1, .slice AK1 nk1 cK1], .int .i64 E0]) ∧ Td w'' w'.heap.size J0 k1 b1 n1 s1 A1 nl1 c1 AK1 nk1 cK1) ∧ Step w' w'') := fun w' => (jparse_any s w' hs).mono fun e w'' hh => by
    obtain ⟨t, h1, h2, h3, h4⟩ := hh
    rw [hJ0] at h2
    obtain ⟨k1, b1, n1, s1, A1, nl1, c1, AK1, nk1, cK1, hc, ht⟩ := Td.of h3 h2
    exact ⟨⟨k1, b1, n1, s1, A1, nl1, c1, AK1, nk1, cK1, by rw [h1, hc, hE0], ht⟩, h4⟩
  have PC : Hid (∀ w', Calls Tryd.prog 11 #[.string s] w' fun e w'' => (∃ (k3 : Int) (b3 : Bool) (n3 : Int) (s3 : ByteArray) (A3 : Option Addr) (nl3 c3 : Nat) (AK3 : Option Addr) (nk3 cK3 : Nat), e = .returned (.tuple #[.agg #[.int .i64 k3, .bool b3, .int .i64 n3, .string s3, .slice A3 nl3 c3, .slice AK3 nk3 cK3], .int .i64 E0]) ∧ Td w'' w'.heap.size J0 k3 b3 n3 s3 A3 nl3 c3 AK3 nk3 cK3) ∧ Step w' w'') := fun w' => (dparse_any s w' hs).mono fun e w'' hh => by
    obtain ⟨t, h1, h2, h3, h4⟩ := hh
    rw [hJ0] at h2
    obtain ⟨k3, b3, n3, s3, A3, nl3, c3, AK3, nk3, cK3, hc, ht⟩ := Td.of h3 h2
    exact ⟨⟨k3, b3, n3, s3, A3, nl3, c3, AK3, nk3, cK3, by rw [h1, hc, hE0], ht⟩, h4⟩
  clear htb hJ0 hE0
  go_enter Tryd.func3, Tryd.ntmps3
  go_upto_region 2 with (go_at_call 10; (with_reducible refine (PA.out _).mono ?_); rintro e wa ⟨⟨k1, b1, n1, s1, A1, nl1, c1, AK1, nk1, cK1, rfl, ht1⟩, hsa⟩; have HT1 := hide ht1; clear ht1)
  obtain ⟨W1, hW1⟩ : ∃ W : World, W = wa.alloc (.cells #[.int .i64 k1, .bool b1, .int .i64 n1, .string s1, .slice A1 nl1 c1, .slice AK1 nk1 cK1] 25) := ⟨_, rfl⟩
  have HB1 : Hid (Blk W1 wa.heap.size 25 [.int .i64 k1, .bool b1, .int .i64 n1, .string s1, .slice A1 nl1 c1, .slice AK1 nk1 cK1]) := by rw [hW1]; exact Blk.new wa _ 25
  have SW1 : Step wa W1 := by rw [hW1]; exact Step.of
  rw [← hW1]
  clear hW1
  go_upto_region 3 with (go_at_call 10; (with_reducible refine (PA.out _).mono ?_); rintro e wb ⟨⟨k2, b2, n2, s2, A2, nl2, c2, AK2, nk2, cK2, rfl, ht2⟩, hsb⟩; have HT2 := hide ht2; clear ht2)
  obtain ⟨W2, hW2⟩ : ∃ W : World, W = wb.alloc (.cells #[.int .i64 k2, .bool b2, .int .i64 n2, .string s2, .slice A2 nl2 c2, .slice AK2 nk2 cK2] 25) := ⟨_, rfl⟩
  have HB2 : Hid (Blk W2 wb.heap.size 25 [.int .i64 k2, .bool b2, .int .i64 n2, .string s2, .slice A2 nl2 c2, .slice AK2 nk2 cK2]) := by rw [hW2]; exact Blk.new wb _ 25
  have SW2 : Step wb W2 := by rw [hW2]; exact Step.of
  rw [← hW2]
  clear hW2
  go_upto_region 4 with (go_at_call 11; (with_reducible refine (PC.out _).mono ?_); rintro e wc ⟨⟨k3, b3, n3, s3, A3, nl3, c3, AK3, nk3, cK3, rfl, ht3⟩, hsc⟩; have HT3 := hide ht3; clear ht3)
  obtain ⟨W3, hW3⟩ : ∃ W : World, W = wc.alloc (.cells #[.int .i64 k3, .bool b3, .int .i64 n3, .string s3, .slice A3 nl3 c3, .slice AK3 nk3 cK3] 25) := ⟨_, rfl⟩
  have HB3 : Hid (Blk W3 wc.heap.size 25 [.int .i64 k3, .bool b3, .int .i64 n3, .string s3, .slice A3 nl3 c3, .slice AK3 nk3 cK3]) := by rw [hW3]; exact Blk.new wc _ 25
  have SW3 : Step wc W3 := by rw [hW3]; exact Step.of
  rw [← hW3]
  clear hW3
  have SJ := hide (fun (w' : World) (h1 : Fut W3 w') => (by
    have hst : Step W3 w' := ⟨h1.below⟩
    exact same_rdd (j := J0) wa wc (HT1.out.rdd HFN.out) (HT3.out.rdd HFN.out) w' : Calls Tryd.prog 12 #[.agg #[.int .i64 k1, .bool b1, .int .i64 n1, .string s1, .slice A1 nl1 c1, .slice AK1 nk1 cK1], .agg #[.int .i64 k3, .bool b3, .int .i64 n3, .string s3, .slice A3 nl3 c3, .slice AK3 nk3 cK3]] w' fun e w'' => e = .returned (.bool true) ∧ Step w' w''))
  obtain ⟨x0, x1, x2, x3, x4, x5⟩ := At.z6 (HB1.out.fut (w' := W3)).at0
  have lx := (HB1.out.fut (w' := W3)).lt
  obtain ⟨y0, y1, y2, y3, y4, y5⟩ := At.z6 HB3.out.at0
  have ly := HB3.out.lt
  go_upto_region 6 with (first | (go_at_call 13; (with_reducible refine (NM.out _ _).mono ?_); rintro e wn ⟨rfl, rfl⟩) | (go_at_call 12; (with_reducible refine (SJ.out _ inferInstance).mono ?_); rintro e wS ⟨rfl, hst⟩; clear x0 x1 x2 x3 x4 x5 lx y0 y1 y2 y3 y4 y5 ly))
  obtain ⟨wS, rfl⟩ : ∃ x : World, x = wn := ⟨_, rfl⟩
  have hn0 : w.heap.size ≤ wa.heap.size := hsa.size
  have hn1 : wa.heap.size < W1.heap.size := HB1.out.lt
  have hn2 : W1.heap.size ≤ wb.heap.size := hsb.size
  have hn3 : wb.heap.size < W2.heap.size := HB2.out.lt
  have hn4 : W2.heap.size ≤ wc.heap.size := hsc.size
  have hn5 : wc.heap.size < W3.heap.size := HB3.out.lt
  have hn6 : W3.heap.size ≤ wS.heap.size := hst.size
  have HTS1 := hide (HT1.out.step (fut wa wS))
  have HTS2 := hide (HT2.out.step (fut wb wS))
  have HTS3 := hide (HT3.out.step (fut wc wS))
  have HBS1 := hide (HB1.out.fut (w' := wS))
  have HBS2 := hide (HB2.out.fut (w' := wS))
  have HBS3 := hide (HB3.out.fut (w' := wS))
  have HBW := hide (fut w wS)
  have htd : Tab wS := Tab.fut (w := w) HTB.out
  have HTD := hide htd
  clear htd
  obtain ⟨qL, qK, hqL, hqK⟩ := HT1.out.rows wS.heap.size
  have HQL : Hid ((w.heap.size ≤ qL ∧ qL < wa.heap.size) ∨ wS.heap.size ≤ qL) := by
    rcases hqL with ⟨a1, _⟩ | ⟨a1, a2, _⟩
    · exact .inr a1
    · exact .inl ⟨a1, a2⟩
  have HQK : Hid ((w.heap.size ≤ qK ∧ qK < wa.heap.size) ∨ wS.heap.size ≤ qK) := by
    rcases hqK with ⟨a1, _⟩ | ⟨a1, a2, _⟩
    · exact .inr a1
    · exact .inl ⟨a1, a2⟩
  have hL0 : Hid (0 < nl1 → A1 = some ⟨qL, 0, none⟩ ∧ ∃ cs, Blk wS qL 25 cs ∧ nl1 * 6 ≤ cs.length) := fun hp => by
    rcases hqL with ⟨_, a2⟩ | ⟨_, _, a3, cs, a4, a5⟩
    · omega
    · exact ⟨a3, cs, a4.fut, a5⟩
  have hK0 : Hid (0 < nk1 → AK1 = some ⟨qK, 0, none⟩ ∧ qK ≠ qL ∧ ∃ cs, Blk wS qK 9 cs ∧ nk1 ≤ cs.length) := fun hp => by
    rcases hqK with ⟨_, a2⟩ | ⟨a1, a2, a3, cs, a4, a5⟩
    · omega
    · refine ⟨a3, ?_, cs, a4.fut, a5⟩
      rcases hqL with ⟨b1, _⟩ | ⟨_, _, _, ds, b4, _⟩
      · omega
      · intro e
        subst e
        unfold Blk at a4 b4
        rw [a4] at b4
        injection b4 with b4
        injection b4 with _ b4
        exact absurd b4 (by decide)
  have hqn1 : wa.heap.size ≠ qL := by have := HQL.out; omega
  have hqn2 : wb.heap.size ≠ qL := by have := HQL.out; omega
  have hqn3 : wc.heap.size ≠ qL := by have := HQL.out; omega
  have hkn1 : wa.heap.size ≠ qK := by have := HQK.out; omega
  have hkn2 : wb.heap.size ≠ qK := by have := HQK.out; omega
  have hkn3 : wc.heap.size ≠ qK := by have := HQK.out; omega
  clear hqL hqK
  have hnl1 : nl1 ≤ 8796093022208 ∧ nk1 ≤ 8796093022208 := by
    obtain ⟨l, ks, e1, e2, e3, e4⟩ := HT1.out.rdd HFN.out
    rw [RdT] at e4
    rw [← e1, ← e2]
    exact ⟨by have := e4.2.2.1.1; omega, e4.2.2.1.2⟩
  obtain ⟨hnl1, hnk1⟩ := hnl1
  obtain ⟨x0, x1, x2, x3, x4, x5⟩ := At.z6 HBS1.out.at0
  have lx := HBS1.out.lt
  go_wp2_with fail
  clear x0 x1 x2 x3 x4 x5 lx
  go_loopw [9] (fun v9 wr => ∃ i : Nat, i ≤ nl1 ∧ v9 = .int .i64 i ∧ wr.heap.size ≤ wS.heap.size ∧ wS.grownBy wr (some qL) ∧ Hid (0 < nl1 → A1 = some ⟨qL, 0, none⟩ ∧ ∃ cs, Blk wr qL 25 cs ∧ nl1 * 6 ≤ cs.length)) (fun v9 _ => nl1 - (intOf v9).toNat)
  case atStart => exact ⟨0, Nat.zero_le _, rfl, Nat.le_refl _, World.grownBy.refl _ _, hL0.out⟩
  case round =>
    obtain ⟨i, hi, rfl, hzz1, hg1, HI⟩ := hrel
    obtain ⟨wT, rfl⟩ : ∃ x : World, x = wr := ⟨_, rfl⟩
    have HG1 := hide hg1
    have HBT1 := hide (HBS1.out.grown hg1 (by intro e; injection e with e; omega))
    have hsz1 := hg1.size
    clear hg1
    obtain ⟨x0, x1, x2, x3, x4, x5⟩ := At.z6 HBT1.out.at0
    have lx := HBT1.out.lt
    by_cases hlt : i < nl1
    · have hil : (i : Int) < (nl1 : Int) := by omega
      have hi0 : (0 : Int) ≤ (i : Int) := by omega
      obtain ⟨rfl, cs, hb, hcl⟩ := HI.out (by omega)
      have hcell := hb.at0 (i * 6) (cs[i * 6]'(by omega)) (List.getElem?_eq_getElem (by omega))
      rw [Nat.zero_add] at hcell
      have hcl0 : wT.cell? ⟨qL, 0 + i * 6, none⟩ = some (cs[i * 6]'(by omega)) := by rw [Nat.zero_add]; exact hcell
      have lq := hb.lt
      have fq := hb.free
      have HBQ := hide hb
      clear hb
      go_wp2_with fail
      go_round
      case rel => exact ⟨i + 1, by omega, by go_num, by simp [World.setCell]; exact hzz1, grown_trans HG1.out (grown_setCell wT qL _ _), fun _ => ⟨by first | rfl | trivial, _, HBQ.out.set_ _ _, by rw [List.length_set]; exact hcl⟩⟩
      case measure => simp [intOf]; omega
    · have hil : ¬ (i : Int) < (nl1 : Int) := by omega
      have HK1 : Hid (0 < nk1 → AK1 = some ⟨qK, 0, none⟩ ∧ ∃ cs, Blk wT qK 9 cs ∧ nk1 ≤ cs.length) := fun hp => by
        obtain ⟨a1, a2, cs, a3, a4⟩ := hK0.out hp
        exact ⟨a1, cs, a3.grown HG1.out (by intro e; injection e with e; exact a2 e), a4⟩
      clear HI hL0 hK0
      go_wp2_with fail
      clear x0 x1 x2 x3 x4 x5 lx
      go_loopw [10] (fun v10 wr => ∃ i : Nat, i ≤ nk1 ∧ v10 = .int .i64 i ∧ wr.heap.size ≤ wT.heap.size ∧ wT.grownBy wr (some qK) ∧ Hid (0 < nk1 → AK1 = some ⟨qK, 0, none⟩ ∧ ∃ cs, Blk wr qK 9 cs ∧ nk1 ≤ cs.length)) (fun v10 _ => nk1 - (intOf v10).toNat)
      case atStart => exact ⟨0, Nat.zero_le _, rfl, Nat.le_refl _, World.grownBy.refl _ _, HK1.out⟩
      case round =>
        obtain ⟨m, hm, rfl, hzz2, hg2, HI⟩ := hrel
        obtain ⟨wU, rfl⟩ : ∃ x : World, x = wr := ⟨_, rfl⟩
        have HG2 := hide hg2
        have HBU1 := hide (HBT1.out.grown hg2 (by intro e; injection e with e; omega))
        have hsz2 := hg2.size
        clear hg2 HK1
        obtain ⟨x0, x1, x2, x3, x4, x5⟩ := At.z6 HBU1.out.at0
        have lx := HBU1.out.lt
        by_cases hlt2 : m < nk1
        · have hml : (m : Int) < (nk1 : Int) := by omega
          have hm0 : (0 : Int) ≤ (m : Int) := by omega
          obtain ⟨rfl, cs, hb, hcl⟩ := HI.out (by omega)
          have hcell := hb.at0 m (cs[m]'(by omega)) (List.getElem?_eq_getElem (by omega))
          rw [Nat.zero_add] at hcell
          have hcl0 : wU.cell? ⟨qK, 0 + m, none⟩ = some (cs[m]'(by omega)) := by rw [Nat.zero_add]; exact hcell
          have lq := hb.lt
          have fq := hb.free
          have HBQ := hide hb
          clear hb
          go_wp2_with fail
          go_round
          case rel => exact ⟨m + 1, by omega, by go_num, by simp [World.setCell]; exact hzz2, grown_trans HG2.out (grown_setCell wU qK _ _), fun _ => ⟨by first | rfl | trivial, _, HBQ.out.set_ _ _, by rw [List.length_set]; exact hcl⟩⟩
          case measure => simp [intOf]; omega
        · have hml : ¬ (m : Int) < (nk1 : Int) := by omega
          have HTU2 := hide ((HTS2.out.other HG1.out (by have := HQL.out; omega)).other HG2.out (by have := HQK.out; omega))
          have HTU3 := hide ((HTS3.out.other HG1.out (by have := HQL.out; omega)).other HG2.out (by have := HQK.out; omega))
          have HBU2 := hide ((HBS2.out.grown HG1.out (by intro e; injection e with e; omega)).grown HG2.out (by intro e; injection e with e; omega))
          have HBU3 := hide ((HBS3.out.grown HG1.out (by intro e; injection e with e; omega)).grown HG2.out (by intro e; injection e with e; omega))
          have hfu : Fut w wU := ⟨step_mv (step_mv HBW.out HG1.out (by have := HQL.out; omega)) HG2.out (by have := HQK.out; omega)⟩
          have SJ2 := hide (fun (w' : World) (h1 : Fut wU w') => (same_rdd (j := J0) wU wU (HTU2.out.rdd HFN.out) (HTU3.out.rdd HFN.out) w' : Calls Tryd.prog 12 #[.agg #[.int .i64 k2, .bool b2, .int .i64 n2, .string s2, .slice A2 nl2 c2, .slice AK2 nk2 cK2], .agg #[.int .i64 k3, .bool b3, .int .i64 n3, .string s3, .slice A3 nl3 c3, .slice AK3 nk3 cK3]] w' fun e w'' => e = .returned (.bool true) ∧ Step w' w''))
          obtain ⟨y0, y1, y2, y3, y4, y5⟩ := At.z6 HBU2.out.at0
          have ly := HBU2.out.lt
          obtain ⟨z0, z1, z2, z3, z4, z5⟩ := At.z6 HBU3.out.at0
          have lz := HBU3.out.lt
          go_wp2_with (first | (go_at_call 12; go_loud (with_reducible refine (SJ2.out _ inferInstance).mono ?_); rintro e wt ⟨rfl, hst2⟩; clear x0 x1 x2 x3 x4 x5 lx y0 y1 y2 y3 y4 y5 ly z0 z1 z2 z3 z4 z5 lz) | (go_at_call 14; go_loud (with_reducible refine (AW.out _ (Tab.fut (w := w) HTB.out)).mono ?_); rintro e wz ⟨rfl, hsz⟩))
          go_ret
          exact ⟨rfl, Step.of⟩
end Go.Proofs.YtoibfefalflooaaDoor
