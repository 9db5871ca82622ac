/-
  The law PredCompares answers true for every two values.
-/
import Derived.Test.YtcgpfllkbflbhaaDoorPw
namespace Go.Proofs.YtcgpfllkbflbhaaDoor
open Go.RowKit

def sk (k : Int) : Sch := ⟨0, [⟨1, ⟨#[97]⟩, k⟩], 2⟩
def cmpN (c : Int) (x : Val) : Nod := ⟨1, ⟨#[97]⟩, c, x, 0, 0⟩
theorem sk_may {k : Int} (h : 1 ≤ k ∧ k ≤ 3) : mayB (sk k) = true := by
  obtain rfl | rfl | rfl : k = 1 ∨ k = 2 ∨ k = 3 := by omega
  all_goals kernel_rfl
theorem new_k {k : Int} (h : 1 ≤ k ∧ k ≤ 3) : newR [⟨#[97]⟩] [k] = (sk k, 0) := by
  obtain rfl | rfl | rfl : k = 1 ∨ k = 2 ∨ k = 3 := by omega
  all_goals kernel_rfl
theorem sk_find (k : Int) : idx (named ⟨#[97]⟩) (sk k).cols = 0 := by
  have h : named ⟨#[97]⟩ ⟨1, ⟨#[97]⟩, k⟩ = true := by kernel_rfl
  simp [idx, sk, List.findIdx_cons, h]
theorem sk_at (k : Int) : (sk k).cols.findIdx (named ⟨#[97]⟩) = 0 := by
  have h : named ⟨#[97]⟩ ⟨1, ⟨#[97]⟩, k⟩ = true := by kernel_rfl
  simp [sk, List.findIdx_cons, h]
theorem cmp_check {k c : Int} {x : Val} (hk : 1 ≤ k ∧ k ≤ 3) (hc : 0 ≤ c ∧ c ≤ 5) (hx : x.kind = k) (hs : x.s.size ≤ 64) : checkE [cmpN c x] (sk k) = 0 := by
  have hp : predB [cmpN c x] = true := by
    refine predB_iff.2 ⟨by simp, fun i n hn => ?_⟩
    cases i with
    | zero =>
      simp at hn
      subst hn
      simp [nodB, cmpN, kindB, hc.1, hc.2, hx, hk.1, hk.2, hs]
    | succ i => simp at hn
  rw [checkE, if_pos ⟨hp, sk_may hk⟩, firstE, firstE]
  have h0 : nodE (sk k) (cmpN c x) = 0 := by
    rw [nodE_kind (j := 0) rfl (sk_find k) (by show 0 < 1; decide), if_pos]
    exact hx
  rw [if_neg (by simp [h0])]
theorem cmp_row {k : Int} {v : Val} (h : kindV v = 0 ∨ kindV v = k) : rowB (sk k) [v] = true := by
  have : cellOk ⟨1, ⟨#[97]⟩, k⟩ v = true := by rcases h with h | h <;> simp [cellOk, h]
  simp [rowB, sk, rowUpto, this]
theorem cmp_truth {k c : Int} {v x : Val} (hk : 1 ≤ k ∧ k ≤ 3) (hc : 0 ≤ c ∧ c ≤ 5) (hv : v.kind = k) (hx : x.kind = k) (hs : x.s.size ≤ 64) : truthR [cmpN c x] (sk k) [v] = (truthI (standB c v x), 0) := by
  have hkv : kindV v = k := by unfold kindV; rw [if_pos (by omega)]; exact hv
  rw [truthR, cmp_check hk hc hx hs, if_neg (by simp), if_pos (cmp_row (.inr hkv))]
  have : stepT (sk k) [v] [] (cmpN c x) = leafT (cmpN c x) v := by
    rw [step_leaf (j := 0) (.inl rfl) (sk_at k) rfl]
  have e : evalT (sk k) [v] [cmpN c x] = [stepT (sk k) [v] [] (cmpN c x)] := rfl
  rw [e, this, leafT_cmp rfl (by omega)]
  rfl
theorem cmp_null {k : Int} {x : Val} (hk : 1 ≤ k ∧ k ≤ 3) (hx : x.kind = k) (hs : x.s.size ≤ 64) : truthR [cmpN 0 x] (sk k) [⟨0, 0, false, ⟨#[]⟩⟩] = (2, 0) := by
  have hkv : kindV ⟨0, 0, false, ⟨#[]⟩⟩ = 0 := by decide
  rw [truthR, cmp_check hk (by omega) hx hs, if_neg (by simp), if_pos (cmp_row (.inl hkv))]
  have : stepT (sk k) [⟨0, 0, false, ⟨#[]⟩⟩] [] (cmpN 0 x) = leafT (cmpN 0 x) ⟨0, 0, false, ⟨#[]⟩⟩ := by
    rw [step_leaf (j := 0) (.inl rfl) (sk_at k) rfl]
  have e : evalT (sk k) [⟨0, 0, false, ⟨#[]⟩⟩] [cmpN 0 x] = [stepT (sk k) [⟨0, 0, false, ⟨#[]⟩⟩] [] (cmpN 0 x)] := rfl
  rw [e, this, leafT_unk rfl hkv]
  rfl
theorem cmpN_small (c : Int) {x : Val} (h : x.s.size ≤ 64) : ([cmpN c x].all fun n => decide (n.col.size ≤ 100) && decide (n.v.s.size ≤ 100)) = true := by
  have h1 : decide (x.s.size ≤ 100) = true := by simp; omega
  show ((decide (ByteArray.size ⟨#[97]⟩ ≤ 100) && decide (x.s.size ≤ 100)) && true) = true
  rw [h1]
  rfl
/-- The array of the six answers when k are there. -/
def tsV (v x : Val) (k i : Nat) : Int := if i < k then truthI (standB i v x) else 0
def tsC (v x : Val) (k : Nat) : List Value := [.int .i64 (tsV v x k 0), .int .i64 (tsV v x k 1), .int .i64 (tsV v x k 2), .int .i64 (tsV v x k 3), .int .i64 (tsV v x k 4), .int .i64 (tsV v x k 5)]
theorem tsC_set {v x : Val} {k : Nat} (h : k < 6) : (tsC v x k).set k (.int .i64 (truthI (standB k v x))) = tsC v x (k + 1) := by
  obtain rfl | rfl | rfl | rfl | rfl | rfl : k = 0 ∨ k = 1 ∨ k = 2 ∨ k = 3 ∨ k = 4 ∨ k = 5 := by omega
  all_goals rfl
theorem tsC_get {v x : Val} {k : Nat} (h : k < 6) : ∃ u : Int, (tsC v x k)[k]? = some (.int .i64 u) := by
  obtain rfl | rfl | rfl | rfl | rfl | rfl : k = 0 ∨ k = 1 ∨ k = 2 ∨ k = 3 ∨ k = 4 ∨ k = 5 := by omega
  all_goals exact ⟨_, rfl⟩
theorem truthI_two (b : Bool) : (truthI b == 2) = false := by cases b <;> rfl
theorem ts_end {v x : Val} {L M : Bool} (hL : lessV v x = L) (hM : lessV x v = M) : tsC v x 6 = [.int .i64 (truthI (!L && !M)), .int .i64 (truthI (L || M)), .int .i64 (truthI L), .int .i64 (truthI (!M)), .int .i64 (truthI M), .int .i64 (truthI (!L))] := by
  subst hL hM
  rfl

set_option maxRecDepth 100000 in
set_option maxHeartbeats 16000000 in
theorem compares_any (v x : Val) (w : World) (_hx : x.s.size ≤ 9223372036854775807) :
    Calls Tryd.prog 5 #[v.val, x.val] w fun e w' => e = .returned (.bool true) ∧ Step w w' := by
  unfold Val.val
  by_cases hc : (1 ≤ v.kind ∧ v.kind ≤ 3) ∧ x.kind = v.kind ∧ x.s.size ≤ 64
  · obtain ⟨⟨k1, k3⟩, hxk, hxs⟩ := hc
    have HK : Hid (1 ≤ v.kind ∧ v.kind ≤ 3) := ⟨k1, k3⟩
    have HXK := hide hxk
    have e1 : (x.kind != v.kind) = false := by simpa using hxk
    have hxs' : (x.s.size : Int) ≤ 64 := by omega
    have HXS := hide hxs
    clear hxk
    have HVB := hide ((Blk.new w [.int .i64 v.kind, .int .i64 v.i, .bool v.b, .string v.s] 53).alloc (.cells #[.int .i64 x.kind, .int .i64 x.i, .bool x.b, .string x.s] 53))
    have HXB := hide (Blk.new_at (w := w.alloc (.cells #[.int .i64 v.kind, .int .i64 v.i, .bool v.b, .string v.s] 53)) (b := w.heap.size + 1) (by simp) [.int .i64 x.kind, .int .i64 x.i, .bool x.b, .string x.s] 53)
    go_enter Tryd.func5, Tryd.ntmps5
    go_wp2_with fail
    refine (awake15_any _).mono ?_
    rintro e w1 ⟨rfl, hs1⟩
    have z1 := hs1.size
    simp only [hsz] at z1
    obtain ⟨v0, v1, v2, v3⟩ := At.z4 (HVB.out.fut (w' := w1)).at0; have lv := (HVB.out.fut (w' := w1)).lt
    obtain ⟨x0, x1, x2, x3⟩ := At.z4 (HXB.out.fut (w' := w1)).at0; have lx := (HXB.out.fut (w' := w1)).lt
    have HN1 := hide (SlAt.strs1 (w := w1) rfl ⟨#[97]⟩)
    have HN2 := hide (SlAt.ints1 (w := w1.alloc (.cells #[.string ⟨#[97]⟩] 9)) (b := w1.heap.size + 1) (by simp) v.kind)
    have hc := fun w' [Fut (w1.alloc (.cells #[.string ⟨#[97]⟩] 9)) w'] [Fut ((w1.alloc (.cells #[.string ⟨#[97]⟩] 9)).alloc (.cells #[.int .i64 v.kind] 3)) w'] => qnew [⟨#[97]⟩] [v.kind] (some ⟨w1.heap.size, 0, none⟩) (some ⟨w1.heap.size + 1, 0, none⟩) 1 1 w' HN1.out HN2.out (by decide) (by intro n hn; simp at hn; rw [hn]; decide)
    rw [new_k HK.out] at hc
    have HC := hide hc; clear hc
    go_wp2_with fail
    refine (HC.out _).mono ?_
    intro e w2 hr
    obtain ⟨A2, c2, rfl, hi2, ho2, hs2⟩ := hr
    have z2 := hs2.size
    simp only [hsz] at z2
    have HSI : Hid (SchIn w2 (sk v.kind) A2 c2) := hi2
    clear HC HN1 HN2 ho2 hi2 v0 v1 v2 v3 lv x0 x1 x2 x3 lx
    obtain ⟨v0, v1, v2, v3⟩ := At.z4 (HVB.out.fut (w' := w2)).at0; have lv := (HVB.out.fut (w' := w2)).lt
    go_upto_region 7 with (fail)
    obtain ⟨W, hW⟩ : ∃ W, W = ((w2.alloc (.cells #[.int .i64 (sk v.kind).id, .slice A2 (sk v.kind).cols.length c2, .int .i64 (sk v.kind).next] 27)).alloc (.cells #[.int .i64 v.kind, .int .i64 v.i, .bool v.b, .string v.s] 53)).alloc (.cells #[.slice (some ⟨w2.heap.size + 1, 0, none⟩) 1 1] 30) := ⟨_, rfl⟩
    have SW : Step w2 W := by rw [hW]; exact Step.of
    have HSB : Hid (Blk W w2.heap.size 27 [.int .i64 (sk v.kind).id, .slice A2 (sk v.kind).cols.length c2, .int .i64 (sk v.kind).next]) := by rw [hW]; exact ((Blk.new w2 [.int .i64 (sk v.kind).id, .slice A2 (sk v.kind).cols.length c2, .int .i64 (sk v.kind).next] 27).alloc _).alloc _
    have HRS : Hid (SlAt W W.heap.size 4 (some ⟨w2.heap.size + 1, 0, none⟩) ([v].map Val.cells)) := by
      rw [hW]
      exact (SlAt.one_at (w := w2.alloc (.cells #[.int .i64 (sk v.kind).id, .slice A2 (sk v.kind).cols.length c2, .int .i64 (sk v.kind).next] 27)) (b := w2.heap.size + 1) (by simp) 4 [.int .i64 v.kind, .int .i64 v.i, .bool v.b, .string v.s] 53).al _
    have HRB : Hid (Blk W (w2.heap.size + 2) 30 [.slice (some ⟨w2.heap.size + 1, 0, none⟩) 1 1]) := by rw [hW]; exact Blk.new_at (by simp) [.slice (some ⟨w2.heap.size + 1, 0, none⟩) 1 1] 30
    have hzW : w2.heap.size + 2 < W.heap.size := by rw [hW]; simp
    rw [← hW]
    clear hW v0 v1 v2 v3 lv
    have HTB0 : Hid (Blk (W.alloc (.cells #[.int .i64 0, .int .i64 0, .int .i64 0, .int .i64 0, .int .i64 0, .int .i64 0] 59)) W.heap.size 59 (tsC v x 0)) := Blk.new W [.int .i64 0, .int .i64 0, .int .i64 0, .int .i64 0, .int .i64 0, .int .i64 0] 59
    have TR : Hid (∀ c : Nat, c < 6 → truthR [cmpN c x] (sk v.kind) [v] = (truthI (standB c v x), 0)) := fun c hc => cmp_truth HK.out (by omega) rfl HXK.out HXS.out
    have TN := hide (cmp_null HK.out HXK.out HXS.out)
    have hsz2 : w.heap.size + 1 < w2.heap.size := by omega
    go_wp2
    go_loopw [9, 10, 11] (fun c _ _ wr => ∃ k : Nat, k ≤ 6 ∧ c = .int .i64 k ∧ Blk wr W.heap.size 59 (tsC v x k) ∧ Step W wr) (fun c _ _ _ => 6 - (intOf c).toNat)
    case atStart => exact ⟨0, by omega, rfl, HTB0.out, Step.of⟩
    case round =>
      obtain ⟨k, hk, rfl, htb, hst⟩ := hrel
      have HTB := hide htb; clear htb
      have hs5 := hst.size
      obtain ⟨x0, x1, x2, x3⟩ := At.z4 (HXB.out.fut (w' := wr)).at0; have lx : w.heap.size + 1 < wr.heap.size := by omega
      obtain ⟨q0, q1, q2⟩ := At.z3 (HSB.out.fut (w' := wr)).at0; have lq : w2.heap.size < wr.heap.size := by omega
      by_cases hlt : k < 6
      · have r0 := At.z1 (HRB.out.fut (w' := wr)).at0; have lr : w2.heap.size + 2 < wr.heap.size := by omega
        have HPI := hide (PrIn.new (w := wr) (b := wr.heap.size) rfl (l := [cmpN k x]) (cs := [.int .i64 1, .string ⟨#[97]⟩, .int .i64 k, .int .i64 x.kind, .int .i64 x.i, .bool x.b, .string x.s, .int .i64 0, .int .i64 0]) rfl (n := 1) (cap := 1) rfl (Nat.le_refl _) (by decide) (cmpN_small _ HXS.out))
        have tc := fun w' [Fut (wr.alloc (.cells #[.int .i64 1, .string ⟨#[97]⟩, .int .i64 k, .int .i64 x.kind, .int .i64 x.i, .bool x.b, .string x.s, .int .i64 0, .int .i64 0] 55)) w'] [Fut w2 w'] [Fut W w'] => ptruthR_any [cmpN k x] (some ⟨wr.heap.size, 0, none⟩) 1 (sk v.kind) A2 c2 [v] (some ⟨w2.heap.size + 1, 0, none⟩) 1 w' HPI.out HSI.out HRS.out (by show 1 ≤ _; decide)
        rw [TR.out k hlt] at tc
        unfold Sch.val at tc
        have TC := hide tc; clear tc
        have hk0 : (0 : Int) ≤ (k : Int) := by omega
        have hk6 : (k : Int) < 6 := by omega
        go_wp2_with fail
        refine (TC.out _).mono ?_
        rintro e w5 ⟨rfl, hs6⟩
        clear x0 x1 x2 x3 lx q0 q1 q2 lq r0 lr
        obtain ⟨u, hu⟩ := tsC_get (v := v) (x := x) hlt
        have HTB5 := hide (HTB.out.fut (w' := w5))
        have t0 : w5.cell? ⟨W.heap.size, k, none⟩ = some (.int .i64 u) := by simpa using HTB5.out.at0 k _ hu
        have ft := HTB5.out.free
        have lt5 := HTB5.out.lt
        have e2 := truthI_two (standB k v x)
        clear hu
        go_wp2_with (go_at_call 20; refine (numv_any _ _).mono ?_; rintro e w' ⟨rfl, rfl⟩)
        go_roundw
        case rel => exact ⟨k + 1, by omega, by go_num, by rw [← tsC_set hlt]; exact HTB5.out.set_ k _, Step.of⟩
        case measure => simp [intOf]; omega
      · obtain rfl : k = 6 := by omega
        have HPI := hide (PrIn.new (w := wr) (b := wr.heap.size) rfl (l := [cmpN 0 x]) (cs := [.int .i64 1, .string ⟨#[97]⟩, .int .i64 0, .int .i64 x.kind, .int .i64 x.i, .bool x.b, .string x.s, .int .i64 0, .int .i64 0]) rfl (n := 1) (cap := 1) rfl (Nat.le_refl _) (by decide) (cmpN_small _ HXS.out))
        have tc := fun w' [Fut (wr.alloc (.cells #[.int .i64 1, .string ⟨#[97]⟩, .int .i64 0, .int .i64 x.kind, .int .i64 x.i, .bool x.b, .string x.s, .int .i64 0, .int .i64 0] 55)) w'] [Fut w2 w'] [Fut ((wr.alloc (.cells #[.int .i64 1, .string ⟨#[97]⟩, .int .i64 0, .int .i64 x.kind, .int .i64 x.i, .bool x.b, .string x.s, .int .i64 0, .int .i64 0] 55)).alloc (.cells #[.int .i64 0, .int .i64 0, .bool false, .string ⟨#[]⟩] 53)) w'] => ptruthR_any [cmpN 0 x] (some ⟨wr.heap.size, 0, none⟩) 1 (sk v.kind) A2 c2 [⟨0, 0, false, ⟨#[]⟩⟩] (some ⟨wr.heap.size + 1, 0, none⟩) 1 w' HPI.out HSI.out (SlAt.one_at (w := wr.alloc (.cells #[.int .i64 1, .string ⟨#[97]⟩, .int .i64 0, .int .i64 x.kind, .int .i64 x.i, .bool x.b, .string x.s, .int .i64 0, .int .i64 0] 55)) (b := wr.heap.size + 1) (by simp) 4 [.int .i64 0, .int .i64 0, .bool false, .string ⟨#[]⟩] 53) (by show 1 ≤ _; decide)
        rw [TN.out] at tc
        unfold Sch.val at tc
        have TC := hide tc; clear tc
        go_wp2_with fail
        refine (TC.out _).mono ?_
        rintro e w5 ⟨rfl, hs6⟩
        clear x0 x1 x2 x3 lx q0 q1 q2 lq
        have HTB5 := hide (HTB.out.fut (w' := w5))
        have lt5 := HTB5.out.lt
        obtain ⟨L, hL⟩ : ∃ L, lessV v x = L := ⟨_, rfl⟩
        obtain ⟨M, hM⟩ : ∃ M, lessV x v = M := ⟨_, rfl⟩
        have hte := ts_end hL hM
        have hasym : L = true → M = false := fun h => by rw [← hM]; exact lessV_asymm (by rw [hL]; exact h)
        have htb6 := HTB5.out
        rw [hte] at htb6
        clear hte hL hM
        cases L <;> cases M
        all_goals first
          | (exfalso; have := hasym rfl; cases this; done)
          | (clear hasym
             obtain ⟨t0, t1, t2, t3, t4, t5⟩ := At.z6 htb6.at0
             simp only [truthI, Bool.not_false, Bool.not_true, Bool.and_true, Bool.and_false, Bool.or_false, Bool.or_true, Bool.and_self, Bool.or_self, if_true, if_false, Bool.false_eq_true] at t0 t1 t2 t3 t4 t5
             clear htb6
             go_wp2_with (go_at_call 20; refine (numv_any _ _).mono ?_; rintro e w' ⟨rfl, rfl⟩)
             go_ret
             exact ⟨rfl, Step.of⟩)
  · have HVB := hide ((Blk.new w [.int .i64 v.kind, .int .i64 v.i, .bool v.b, .string v.s] 53).alloc (.cells #[.int .i64 x.kind, .int .i64 x.i, .bool x.b, .string x.s] 53))
    have HXB := hide (Blk.new_at (w := w.alloc (.cells #[.int .i64 v.kind, .int .i64 v.i, .bool v.b, .string v.s] 53)) (b := w.heap.size + 1) (by simp) [.int .i64 x.kind, .int .i64 x.i, .bool x.b, .string x.s] 53)
    have hcs : v.kind < 1 ∨ (1 ≤ v.kind ∧ 3 < v.kind) ∨ (1 ≤ v.kind ∧ v.kind ≤ 3 ∧ (x.kind != v.kind) = true) ∨ (1 ≤ v.kind ∧ v.kind ≤ 3 ∧ (x.kind != v.kind) = false ∧ (64 : Int) < (x.s.size : Int)) := by
      by_cases h1 : v.kind < 1
      · exact .inl h1
      by_cases h2 : 3 < v.kind
      · exact .inr (.inl ⟨by omega, h2⟩)
      by_cases h3 : x.kind = v.kind
      · exact .inr (.inr (.inr ⟨by omega, by omega, by simpa using h3, by
          have : ¬ x.s.size ≤ 64 := fun h => hc ⟨by omega, h3, h⟩
          omega⟩))
      · exact .inr (.inr (.inl ⟨by omega, by omega, by simpa using h3⟩))
    clear hc
    rcases hcs with h | ⟨h1, h2⟩ | ⟨h1, h2, h3⟩ | ⟨h1, h2, h3, h4⟩
    all_goals
      go_enter Tryd.func5, Tryd.ntmps5
      go_wp2_with fail
      refine (awake15_any _).mono ?_
      rintro e w1 ⟨rfl, hs1⟩
      obtain ⟨v0, v1, v2, v3⟩ := At.z4 (HVB.out.fut (w' := w1)).at0; have lv := (HVB.out.fut (w' := w1)).lt
      obtain ⟨x0, x1, x2, x3⟩ := At.z4 (HXB.out.fut (w' := w1)).at0; have lx := (HXB.out.fut (w' := w1)).lt
      go_wp2_with fail
      go_ret
      exact ⟨rfl, Step.of⟩
end Go.Proofs.YtcgpfllkbflbhaaDoor
