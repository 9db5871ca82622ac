/-
  The law SchemaFull answers true for every two numbers.
-/
import Derived.Test.YtfojdjmeefglcaaDoorFullP
import Derived.Test.YtfojdjmeefglcaaDoorSchemas
namespace Go.Proofs.YtfojdjmeefglcaaDoor
open Go.RowKit

theorem cn_val (j : Nat) : (⟨#[99]⟩ ++ decB j : ByteArray) = cn j := by
  apply ByteArray.ext
  simp [cn, str, decB, ByteArray.data_append]

theorem hszd (w : World) : w.drew.heap.size = w.heap.size := rfl
theorem SchIn.put {w : World} {s : Sch} {A : Option Addr} {v n b o : Nat} (h : SchIn w s A v) (ha : Abv n A) (hb : b < n) (u : Value) : SchIn (w.setCell ⟨b, o, none⟩ u) s A v := ⟨h.hcap, h.hcapm, h.len, h.at_.put ha hb u, h.names⟩
theorem SchIn.put3 {w : World} {s : Sch} {A : Option Addr} {v n b : Nat} (h : SchIn w s A v) (ha : Abv n A) (hb : b < n) (u0 u1 u2 : Value) : SchIn (((w.setCell ⟨b, 0, none⟩ u0).setCell ⟨b, 1, none⟩ u1).setCell ⟨b, 2, none⟩ u2) s A v :=
  ((h.put ha hb u0).put ha hb u1).put ha hb u2
theorem Blk.put3 {w : World} {b : Nat} {t : TypeId} {a0 a1 a2 : Value} (h : Blk w b t [a0, a1, a2]) (u0 u1 u2 : Value) : Blk (((w.setCell ⟨b, 0, none⟩ u0).setCell ⟨b, 1, none⟩ u1).setCell ⟨b, 2, none⟩ u2) b t [u0, u1, u2] := ((h.set_ 0 u0).set_ 1 u1).set_ 2 u2
/-- A variable of a schema's type that holds s. -/
def TBox (w wx : World) (b : Nat) (s : Sch) (A : Option Addr) (v : Nat) : Prop := Blk wx b 24 [.int .i64 s.id, .slice A s.cols.length v, .int .i64 s.next] ∧ SchIn wx s A v ∧ w.heap.size ≤ b ∧ Abv w.heap.size A ∧ Step w wx
theorem TBox.a {w w5 : World} {s : Sch} {A : Option Addr} {v : Nat} (hi : SchIn w5 s A v) (ha : Abv w.heap.size A) (hs : Below w.heap.size w w5) : TBox w (w5.alloc (.cells #[.int .i64 s.id, .slice A s.cols.length v, .int .i64 s.next] 24)) w5.heap.size s A v :=
  ⟨Blk.new w5 [.int .i64 s.id, .slice A s.cols.length v, .int .i64 s.next] _, hi.fut, hs.size, ha, ⟨hs.alloc hs.size _⟩⟩
theorem TBox.b {w w5 : World} {s : Sch} {A : Option Addr} {v n b : Nat} {a0 a1 a2 : Value} (hb : Blk w5 b 24 [a0, a1, a2]) (hi : SchIn w5 s A v) (ha : Abv n A) (hbn : b < n) (hwb : w.heap.size ≤ b) (hs : Below w.heap.size w w5) :
    TBox w (((w5.setCell ⟨b, 0, none⟩ (.int .i64 s.id)).setCell ⟨b, 1, none⟩ (.slice A s.cols.length v)).setCell ⟨b, 2, none⟩ (.int .i64 s.next)) b s A v :=
  ⟨hb.put3 _ _ _, hi.put3 ha hbn _ _ _, hwb, ha.mono (by omega), ⟨below3 hs hwb _ _ _⟩⟩

set_option maxRecDepth 100000 in
set_option maxHeartbeats 4000000 in
theorem full_any (kd gn : Int) (w : World) : Calls Tryd.prog 6 #[.int .i64 kd, .int .i64 gn] w fun e w' => e = .returned (.bool true) ∧ Step w w' := by
  obtain ⟨k, hk, hk1⟩ : ∃ k : Int, 1 + IntKind.u64.wrap kd % 3 = k ∧ (k = 1 ∨ k = 2 ∨ k = 3) := ⟨_, rfl, by omega⟩
  obtain ⟨g, hg, hg1⟩ : ∃ g : Nat, IntKind.u64.wrap gn % 12 = (g : Int) ∧ g < 12 := ⟨(IntKind.u64.wrap gn % 12).toNat, by omega, by omega⟩
  have HK := hide hk1
  clear hk1
  have hu0 : 0 ≤ IntKind.u64.wrap kd := by rw [IntKind.wrap_u64]; omega
  have hr0 : 0 ≤ IntKind.u64.wrap kd % 3 := by omega
  have hr1 : IntKind.u64.wrap kd % 3 ≤ 2 := by omega
  have hv0 : 0 ≤ IntKind.u64.wrap gn := by rw [IntKind.wrap_u64]; omega
  go_enter Tryd.func6, Tryd.ntmps6
  go_wp2_with fail
  refine (pawake w).mono ?_
  rintro e w1 ⟨rfl, hs1⟩
  have HN1 := hide (SlAt.strs1 (w := w1) rfl ⟨#[99, 48]⟩)
  have HN2 := hide (SlAt.ints1 (w := w1.alloc (.cells #[.string ⟨#[99, 48]⟩] 9)) (b := w1.heap.size + 1) (by simp) 1)
  have hc := fun w' [Fut (w1.alloc (.cells #[.string ⟨#[99, 48]⟩] 9)) w'] [Fut ((w1.alloc (.cells #[.string ⟨#[99, 48]⟩] 9)).alloc (.cells #[.int .i64 1] 3)) w'] => pnew [str [99, 48]] [1] (some ⟨w1.heap.size, 0, none⟩) (some ⟨w1.heap.size + 1, 0, none⟩) 1 1 w' HN1.out HN2.out (by decide) (by intro n hn; simp at hn; rw [hn]; decide)
  rw [sf_new] at hc
  have HC := hide hc; clear hc
  go_wp2_with fail
  refine (HC.out _).mono ?_
  intro e w2 hr
  obtain ⟨A2, v2, rfl, hi2, _, hs2⟩ := hr
  have Hs := hide (Blk.new w2 [.int .i64 (sf 1 0).id, .slice A2 (sf 1 0).cols.length v2, .int .i64 (sf 1 0).next] 24)
  have hc := fun w' [Fut w2 w'] => pdrop (sf 1 0) A2 v2 (str [99, 48]) w' hi2
  rw [sf_one] at hc
  have HC := hide hc; clear hc
  unfold Sch.val at HC
  go_wp2_with fail
  refine (HC.out _).mono ?_
  intro e w3 hr
  obtain ⟨A3, v3, rfl, hi3, _, hs3⟩ := hr
  go_wp2_with fail
  have Hs3 := hide ((Hs.out.fut (w' := w3.alloc (.cells #[.int .i64 Sch.zero.id, .slice A3 Sch.zero.cols.length v3, .int .i64 Sch.zero.next] 24))))
  have hz2 := hs2.size
  have hz1 := hs1.size
  simp only [hsz] at hz2
  go_loopw [9, 10, 11] (fun i _ _ wr => ∃ (m j : Nat) (A : Option Addr) (v : Nat), i = .int .i64 m ∧ m = j + 1 ∧ m ≤ 12 ∧ Blk wr w2.heap.size 24 [.int .i64 (sf k j).id, .slice A (sf k j).cols.length v, .int .i64 (sf k j).next] ∧ SchIn wr (sf k j) A v ∧ Step w wr) (fun i _ _ _ => 12 - (intOf i).toNat)
  case atStart => exact ⟨1, 0, A2, v2, rfl, rfl, by decide, Hs3.out, hi2.fut, Step.of⟩
  case round =>
    obtain ⟨m, j, A, v, rfl, hmj, hm, hbl, hin, hst⟩ := hrel
    have HMJ := hide hmj; clear hmj
    by_cases hlt : m < 12
    · obtain ⟨s0, s1, s2⟩ := At.z3 hbl.at0
      have fs := hbl.free
      have ls := hbl.lt
      have HBL := hide hbl; clear hbl
      have hc := fun w' (S : Step wr w') => padd (sf k j) A v (cn m) k w' hin (by rw [← cn_val]; have := decB_size m; have h1 : (⟨#[99]⟩ : ByteArray).size = 1 := rfl; simp only [ByteArray.size_append, h1]; omega)
      have hadd : addR (sf k j) (cn m) k = (sf k m, 0) := by rw [HMJ.out]; exact sf_add HK.out (by have := HMJ.out; omega)
      rw [hadd, ← cn_val] at hc
      unfold Sch.val at hc
      have HADD := hide hc; clear hc hadd
      have hds : ((decB m).size : Int) ≤ 20 := by have := decB_size m; omega
      have hd2 : ¬ 9223372036854775807 < 1 + (decB m).size := by have := decB_size m; omega
      obtain ⟨r, hr0', hr1', hr2', hr3'⟩ : ∃ r : Int, (IntKind.u64.wrap kd).tmod 3 = r ∧ IntKind.i64.wrap r = r ∧ IntKind.i64.wrap (1 + r) = k ∧ 0 ≤ r := by
        refine ⟨IntKind.u64.wrap kd % 3, ?_, ?_, ?_, hr0⟩
        · rw [Int.tmod_eq_emod_of_nonneg hu0]
        · rw [IntKind.wrap_i64]; omega
        · rw [IntKind.wrap_i64]; omega
      go_upto_region 8 with (fail)
      go_cut [10, 11] from 35 to 51 (fun tt ff wx => ∃ (b : Nat) (A5 : Option Addr) (v5 : Nat), tt = .pointer (some ⟨b, 0, none⟩) ∧ ff = .int .i64 0 ∧ TBox wr wx b (sf k m) A5 v5)
      case first =>
        go_region_law (first
          | (go_simp; go_at_call 32; refine (decimal_any m (by omega) _).mono ?_; rintro e w' ⟨rfl, hq⟩; obtain ⟨c1, f1⟩ := hq.reads; (try simp only [hszd] at c1 f1); (try simp only [hsz] at c1 f1); (try simp only [hszd] at c1 f1); have z5 := hq.size; (try simp only [hszd] at z5); (try simp only [hsz] at z5); (try simp only [hszd] at z5); (try have lt5 : wr.heap.size < w'.heap.size := by omega); have lt7 : w2.heap.size < w'.heap.size := (by omega))
          | (go_simp; go_at_call 15; refine (HADD.out _ Step.of).mono ?_; intro e w5 hr; obtain ⟨A5, v5, rfl, hi5, ho5, hs5⟩ := hr; obtain ⟨c5, f5⟩ := hs5.reads; (try simp only [hszd] at c5 f5); (try simp only [hsz] at c5 f5); (try simp only [hszd] at c5 f5); have z6 := hs5.size; (try simp only [hszd] at z6); (try simp only [hsz] at z6); (try simp only [hszd] at z6); (try have lt6 : wr.heap.size < w5.heap.size := by omega); have lt8 : w2.heap.size < w5.heap.size := (by omega))) 
        all_goals
          go_wp2_with fail
          go_meet
          case rel =>
            first
              | exact ⟨_, _, _, rfl, rfl, TBox.a hi5 (ho5.abv.mono (by (try simp only [hszd]); (try simp only [hsz]); (try simp only [hszd]); omega)) (fut wr w5)⟩
              | exact ⟨_, _, _, rfl, rfl, TBox.b ((Blk.new w' [.int .i64 0, .slice none 0 0, .int .i64 0] 24).fut (w' := w5)) hi5 ho5.abv (by (try simp only [hszd]); (try simp only [hsz]); (try simp only [hszd]); omega) (by omega) (fut wr w5)⟩
              | exact ⟨_, _, _, rfl, rfl, TBox.b ((Blk.new wr [.int .i64 0, .slice none 0 0, .int .i64 0] 24).fut (w' := w5)) hi5 ho5.abv (by (try simp only [hszd]); (try simp only [hsz]); (try simp only [hszd]); omega) (by omega) (fut wr w5)⟩
              | exact ⟨_, _, _, rfl, rfl, TBox.b ((Blk.new wr.drew [.int .i64 0, .slice none 0 0, .int .i64 0] 24).fut (w' := w5)) hi5 ho5.abv (by (try simp only [hszd]); (try simp only [hsz]); (try simp only [hszd]); omega) (by omega) (fut wr w5)⟩
      case rest =>
        obtain ⟨b, A5, v5, rfl, rfl, htb, hin5, hwb, hab, hst5⟩ := hcut
        clear hr0' hr1' hr2' s0 s1 s2 fs
        have hbl5 := HBL.out.fut (w' := wc)
        obtain ⟨s0, s1, s2⟩ := At.z3 hbl5.at0
        have fs := hbl5.free
        obtain ⟨t0, t1, t2⟩ := At.z3 htb.at0
        have HB5 := hide hbl5; clear hbl5 htb
        go_wp2_with (go_at_call 22; refine (num_any _ _).mono ?_; rintro e w9 ⟨rfl, rfl⟩)
        go_roundw
        case rel =>
          exact ⟨m + 1, m, A5, v5, by go_num, rfl, by omega, HB5.out.put3 _ _ _, hin5.put3 hab ls _ _ _, ⟨below3 (fut w wc) (by omega) _ _ _⟩⟩
        case measure => simp [intOf]; omega
    · obtain rfl : m = 12 := by omega
      obtain rfl : j = 11 := by have := HMJ.out; omega
      obtain ⟨e1, e2, e3, c, hc1, hc2⟩ := sf_full HK.out hg1
      obtain ⟨x1, hx1⟩ := sf_more HK.out
      obtain ⟨x2, hx2⟩ := sf_x HK.out
      have hs2' := hbl.lt
      have HBL := hide hbl; clear hbl
      have h4 := fun w' [Fut wr w'] => padd (sf k 11) A v (str [109, 111, 114, 101]) 1 w' hin (by decide)
      rw [hx1] at h4; unfold Sch.val at h4
      have H4 := hide h4; clear h4 hx1
      have h5 := fun w' [Fut wr w'] => pdrop (sf k 11) A v (cn g) w' hin
      rw [e1] at h5; unfold Sch.val at h5
      have H5 := hide h5; clear h5 e1
      have h8 := fun w' [Fut wr w'] => padd (sf k 11) A v (str [120]) 0 w' hin (by decide)
      rw [hx2] at h8; unfold Sch.val at h8
      have H8 := hide h8; clear h8 hx2
      have E2 := hide e2; have E3 := hide e3; have HC1 := hide hc1; have HC2 := hide hc2; clear e2 e3 hc1 hc2
      obtain ⟨s0, s1, s2⟩ := At.z3 HBL.out.at0
      go_wp2_with fail
      refine (H4.out _).mono ?_
      intro e w4 hr
      obtain ⟨A4, v4, rfl, hi4, _, hs4⟩ := hr
      have hg0 : (0 : Int) ≤ (g : Int) := by omega
      have hg2 : (g : Int) ≤ 11 := by omega
      have hds : ((decB g).size : Int) ≤ 20 := by have := decB_size g; omega
      go_wp2_with fail
      refine (decimal_any g (by omega) _).mono ?_
      rintro e w5 ⟨rfl, hs5⟩
      clear s0 s1 s2
      obtain ⟨s0, s1, s2⟩ := At.z3 (HBL.out.fut (w' := w5)).at0
      go_wp2_with fail
      rw [cn_val]
      refine (H5.out _).mono ?_
      intro e w6 hr
      obtain ⟨A6, v6, rfl, hi6, _, hs6⟩ := hr
      clear s0 s1 s2
      have h6 := fun w' [Fut w6 w'] => padd (sfd k g) A6 v6 (cn g) 2 w' hi6 (by rw [← cn_val]; have := decB_size g; have h1 : (⟨#[99]⟩ : ByteArray).size = 1 := rfl; simp only [ByteArray.size_append, h1]; omega)
      rw [E2.out] at h6; unfold Sch.val at h6
      have H6 := hide h6; clear h6
      go_wp2_with fail
      refine (H6.out _).mono ?_
      intro e w7 hr
      obtain ⟨A7, v7, rfl, hi7, _, hs7⟩ := hr
      have h7 := fun w' [Fut w7 w'] => pfind (sfu k g) A7 v7 (cn g) w' hi7
      rw [E3.out] at h7; unfold Sch.val at h7
      have H7 := hide h7; clear h7
      have HU := hide (Blk.new w7 [.int .i64 (sfu k g).id, .slice A7 (sfu k g).cols.length v7, .int .i64 (sfu k g).next] 24)
      go_wp2_with fail
      refine (H7.out _).mono ?_
      rintro e w8 ⟨rfl, hs8⟩
      obtain ⟨s0, s1, s2⟩ := At.z3 (HBL.out.fut (w' := w8)).at0
      go_wp2_with fail
      refine (H8.out _).mono ?_
      intro e w9 hr
      obtain ⟨A9, v9, rfl, hi9, _, hs9⟩ := hr
      clear s0 s1 s2
      have hu := HU.out.fut (w' := w9)
      obtain ⟨u0, u1, u2⟩ := At.z3 hu.at0
      have lu := hu.lt
      have hlen : 11 < (sfu k g).cols.length := (List.getElem?_eq_some_iff.1 HC1.out).1
      obtain ⟨b7, o7, rfl, hb7, hat7⟩ := hi7.at_.elem (w' := w9) inferInstance (k := 11) (by simpa using hlen)
      obtain ⟨y0, y1, y2⟩ := At.l3 (hat7 11 c.cells (by simp [HC1.out]))
      have hcid : (c.id == 13) = true := by rw [HC2.out]; rfl
      have hz9 : b7 < w9.heap.size := by have := (fut w7 w9).size; omega
      have hlen2 : (11 : Int) < ((sfu k g).cols.length : Int) := by omega
      clear hat7 hu
      go_wp2_with (go_at_call 22; refine (num_any _ _).mono ?_; rintro e w_ ⟨rfl, rfl⟩)
      go_ret
      exact ⟨rfl, Step.of⟩
end Go.Proofs.YtfojdjmeefglcaaDoor
