/-
  The law SelBoth answers true for every two predicates, schema and rows.
-/
import Derived.Test.YtafgfehjdbomfaaDoorKd
import Derived.Test.YtafgfehjdbomfaaDoorKa
namespace Go.Proofs.YtafgfehjdbomfaaDoor
open Go.RowKit

theorem eiNod : EI Tryd.prog 22 59 9 88 :=
  ⟨Tryd.underlying22, info_parts (show (Tryd.prog.info? 59).map (fun i => (i.zero, i.size, i.bytes)) = some (some (.agg #[.int .i64 0, .string .empty, .int .i64 0, .int .i64 0, .int .i64 0, .bool false, .string .empty, .int .i64 0, .int .i64 0]), 9, 88) by kernel_rfl) |>.elim fun i h => ⟨i, _, h.1, h.2.1, h.2.2.1, h.2.2.2, rfl⟩, by decide, by decide⟩
theorem PrIn.of_own {w : World} {base : Nat} {A : Option Addr} {cap n : Nat} {l : List Nod} (h : Own w base 59 9 (.slice A n cap) (l.map Nod.cells)) (hn : l.length = n) (hl : n ≤ 1599289640400) (hs : ∀ n ∈ l, n.col.size ≤ 9223372036854775807 ∧ n.v.s.size ≤ 9223372036854775807) : PrIn w l A cap := by
  subst hn
  obtain ⟨A', c', hv, h1, h2, h3, _⟩ := h.slice (nods_fit l).len (by simp : (l.map Nod.cells).length = l.length)
  injection hv with e1 e2 e3
  subst e1 e3
  exact ⟨h1, by simpa [maxLen] using h2, hl, h3, hs⟩
/-- New memory that holds nothing. -/
theorem own_empty {w : World} (t : TypeId) (size : Nat) : Own (w.alloc (.cells #[] t)) w.heap.size t size (.slice (some ⟨w.heap.size, 0, none⟩) 0 0) [] := ⟨by simp, .inr ⟨w.heap.size, 0, #[], rfl, Nat.le_refl _, heap_alloc_new w _, by simp, by simp, by simp, by simp⟩⟩
theorem pr_none (w : World) : PrIn w [] none 0 := ⟨Nat.le_refl _, by decide, by decide, SlAt.nil_, fun n h => by simp at h⟩

set_option maxRecDepth 100000 in
set_option maxHeartbeats 16000000 in
theorem both_any (ps : List Nod) (Ap : Option Addr) (cp : Nat) (qs : List Nod) (Aq : Option Addr) (cq : Nat) (s : Sch) (As : Option Addr) (cs : Nat) (rs : List RowA) (Ar : Option Addr) (cr : Nat) (w : World)
    (hp : PrIn w ps Ap cp) (hq : PrIn w qs Aq cq) (hs : SchIn w s As cs) (hr : RowsIn w rs Ar cr) :
    Calls Tryd.prog 6 #[.agg #[.slice Ap ps.length cp], .agg #[.slice Aq qs.length cq], .agg #[.int .i64 s.id, .slice As s.cols.length cs, .int .i64 s.next], .slice Ar rs.length cr] w fun e w' => e = .returned (.bool true) ∧ Step w w' := by
  have hrm := hr.hcapm; have hpl := hp.len; have hql := hq.len
  have a0 := fun w' [Fut w w'] => pselRows_any [] none 0 s As cs rs Ar cr w' (pr_none w) hs hr
  have a1 := fun w' [Fut w w'] => pselRows_any ps Ap cp s As cs rs Ar cr w' hp hs hr
  have a2 := fun w' [Fut w w'] => pselRows_any qs Aq cq s As cs rs Ar cr w' hq hs hr
  have hall := all_rows (s := s) (vss := rs.map RowA.vs)
  have hb1 : (selR ps s (rs.map RowA.vs)).1.length ≤ rs.length := by
    unfold selR
    split
    · exact Nat.zero_le _
    · split
      · have := yesTo_len ps s (rs.map RowA.vs) (rs.map RowA.vs).length
        simpa using this
      · exact Nat.zero_le _
  have hb2 : (selR qs s (rs.map RowA.vs)).1.length ≤ rs.length := by
    unfold selR
    split
    · exact Nat.zero_le _
    · split
      · have := yesTo_len qs s (rs.map RowA.vs) (rs.map RowA.vs).length
        simpa using this
      · exact Nat.zero_le _
  have hok1 := selR_ok (ns := ps) (s := s) (vss := rs.map RowA.vs)
  have hok2 := selR_ok (ns := qs) (s := s) (vss := rs.map RowA.vs)
  rw [List.length_map] at hall
  obtain ⟨T0, hT0⟩ : ∃ T, selR [] s (rs.map RowA.vs) = T := ⟨_, rfl⟩
  obtain ⟨T1, hT1⟩ : ∃ T, selR ps s (rs.map RowA.vs) = T := ⟨_, rfl⟩
  obtain ⟨T2, hT2⟩ : ∃ T, selR qs s (rs.map RowA.vs) = T := ⟨_, rfl⟩
  rw [hT0] at hall a0
  rw [hT1] at hb1 a1 hok1
  rw [hT2] at hb2 a2 hok2
  clear hT0 hT1 hT2
  obtain ⟨l0, e0⟩ := T0
  obtain ⟨l1, e1⟩ := T1
  obtain ⟨l2, e2⟩ := T2
  simp only [List.length_nil] at a0
  simp only at hall hb1 hb2 a1 a2 hok1 hok2
  unfold Sch.val at a0 a1 a2
  have A0 := hide a0; have A1 := hide a1; have A2 := hide a2; have HALL := hide hall; have HOK1 := hide hok1; have HOK2 := hide hok2
  obtain ⟨W, hW⟩ : ∃ W, W = ((w.alloc (.cells #[.slice Ap ps.length cp] 24)).alloc (.cells #[.slice Aq qs.length cq] 24)).alloc (.cells #[.int .i64 s.id, .slice As s.cols.length cs, .int .i64 s.next] 27) := ⟨_, rfl⟩
  have SW : Step w W := by rw [hW]; exact Step.of
  have HPB : Hid (Blk W w.heap.size 24 [.slice Ap ps.length cp]) := by rw [hW]; exact ((Blk.new w [.slice Ap ps.length cp] 24).alloc _).alloc _
  have HQB : Hid (Blk W (w.heap.size + 1) 24 [.slice Aq qs.length cq]) := by rw [hW]; exact (Blk.new_at (by simp) [.slice Aq qs.length cq] 24).alloc _
  have HSB : Hid (Blk W (w.heap.size + 1 + 1) 27 [.int .i64 s.id, .slice As s.cols.length cs, .int .i64 s.next]) := by rw [hW]; exact Blk.new_at (by simp) [.int .i64 s.id, .slice As s.cols.length cs, .int .i64 s.next] 27
  have HLW : Hid (W.heap.size = w.heap.size + 3) := by rw [hW]; show _ = _; simp
  have HW := hide hW
  have hzW := SW.size
  clear hW a0 a1 a2 hall hok1 hok2
  go_enter Tryd.func6, Tryd.ntmps6
  go_upto_region 3 with (go_at_call 23; refine (awake16_any _).mono ?_; rintro e w1 ⟨rfl, hs1⟩; rw [← HW.out] at hs1; have hz_ := hs1.size; have h1_ := HPB.out.fut (w' := w1); have p0 := At.z1 h1_.at0; have lp := h1_.lt; have h2_ := HQB.out.fut (w' := w1); have q0 := At.z1 h2_.at0; have lq := h2_.lt; have h3_ := HSB.out.fut (w' := w1); obtain ⟨s0, s1, s2⟩ := At.z3 h3_.at0; have ls := h3_.lt; clear h1_ h2_ h3_ hz_)
  go_quiet (fail)
  go_upto_region 7 with (first
    | (go_at_call 11; (with_reducible refine (A0.out _).mono ?_); rintro e w2 ⟨X0, c0, rfl, ho2, hs2⟩; clear ho2; clear p0 lp q0 lq s0 s1 s2 ls; have hz_ := hs2.size; have h1_ := HPB.out.fut (w' := w2); have p0 := At.z1 h1_.at0; have lp := h1_.lt; have h2_ := HQB.out.fut (w' := w2); have q0 := At.z1 h2_.at0; have lq := h2_.lt; have h3_ := HSB.out.fut (w' := w2); obtain ⟨s0, s1, s2⟩ := At.z3 h3_.at0; have ls := h3_.lt; clear h1_ h2_ h3_ hz_)
    | (go_at_call 11; (with_reducible refine (A1.out _).mono ?_); rintro e w3 ⟨X1, c1, rfl, ho3, hs3⟩; have HO3 := hide ho3; clear ho3; clear p0 lp q0 lq s0 s1 s2 ls; have hz_ := hs3.size; have h1_ := HPB.out.fut (w' := w3); have p0 := At.z1 h1_.at0; have lp := h1_.lt; have h2_ := HQB.out.fut (w' := w3); have q0 := At.z1 h2_.at0; have lq := h2_.lt; have h3_ := HSB.out.fut (w' := w3); obtain ⟨s0, s1, s2⟩ := At.z3 h3_.at0; have ls := h3_.lt; clear h1_ h2_ h3_ hz_)
    | (go_at_call 11; (with_reducible refine (A2.out _).mono ?_); rintro e w4 ⟨X2, c2, rfl, ho4, hs4⟩; have HO4 := hide ho4; clear ho4; clear p0 lp q0 lq s0 s1 s2 ls; have hz_ := hs4.size; have h1_ := HPB.out.fut (w' := w4); have p0 := At.z1 h1_.at0; have lp := h1_.lt; have h2_ := HQB.out.fut (w' := w4); have q0 := At.z1 h2_.at0; have lq := h2_.lt; have h3_ := HSB.out.fut (w' := w4); obtain ⟨s0, s1, s2⟩ := At.z3 h3_.at0; have ls := h3_.lt; clear h1_ h2_ h3_ hz_))
  clear A0 A1 A2
  have HS3 := hide (HO3.out.sl (int_fit l1).len)
  have HS4 := hide (HO4.out.sl (int_fit l2).len)
  clear HO3 HO4
  have hz3 := (fut W w3).size
  have hz4 := (fut w3 w4).size
  by_cases he0 : e0 = 0
  · subst he0
    have hl0 : l0.length = rs.length := HALL.out rfl
    have hl0i : (l0.length : Int) = (rs.length : Int) := by omega
    by_cases he1 : e1 = 0
    · subst he1
      by_cases he2 : e2 = 0
      · subst he2
        by_cases hk : ps.length = 0
        · have hki : (ps.length : Int) = 0 := by omega
          go_wp2_with (go_at_call 18; refine (numv_any _ _).mono ?_; rintro e w' ⟨rfl, rfl⟩)
          go_ret
          exact ⟨rfl, Step.of⟩
        · have hki : ¬ (ps.length : Int) = 0 := by omega
          have hkb : ((ps.length : Int) == 0) = false := beq_eq_false_iff_ne.2 hki
          by_cases hm : qs.length = 0
          · have hmi : (qs.length : Int) = 0 := by omega
            go_wp2_with (go_at_call 18; refine (numv_any _ _).mono ?_; rintro e w' ⟨rfl, rfl⟩)
            go_ret
            exact ⟨rfl, Step.of⟩
          · have hmi : ¬ (qs.length : Int) = 0 := by omega
            have hmb : ((qs.length : Int) == 0) = false := beq_eq_false_iff_ne.2 hmi
            have hwr : IntKind.i64.wrap ((ps.length : Int) + (qs.length : Int)) = (ps.length : Int) + (qs.length : Int) := by rw [IntKind.wrap_i64]; omega
            by_cases hkm : 24 ≤ ps.length + qs.length
            · have hkmi : (24 : Int) ≤ (ps.length : Int) + (qs.length : Int) := by omega
              go_wp2_with (go_at_call 18; refine (numv_any _ _).mono ?_; rintro e w' ⟨rfl, rfl⟩)
              go_ret
              exact ⟨rfl, Step.of⟩
            · have hkmi : ¬ (24 : Int) ≤ (ps.length : Int) + (qs.length : Int) := by omega
              obtain ⟨k, hkk⟩ : ∃ k, ps.length = k + 1 := ⟨ps.length - 1, by omega⟩
              obtain ⟨m, hmm⟩ : ∃ m, qs.length = m + 1 := ⟨qs.length - 1, by omega⟩
              have HKK := hide hkk; have HMM := hide hmm
              have hlt24 : ps.length + qs.length < 24 := by omega
              have HST : Hid (∀ n ∈ bothN ps qs, n.col.size ≤ 9223372036854775807 ∧ n.v.s.size ≤ 9223372036854775807) := fun n hn => by
                unfold bothN at hn
                rcases List.mem_append.1 hn with e | e
                · rcases List.mem_append.1 e with e | e
                  · exact hp.strs n e
                  · obtain ⟨y, hy, rfl⟩ := List.mem_map.1 e
                    exact hq.strs y hy
                · simp at e; subst e; exact ⟨(by decide : (0 : Nat) ≤ 9223372036854775807), (by decide : (0 : Nat) ≤ 9223372036854775807)⟩
              clear hkk hmm
              go_upto_region 9 with (go_at_call 18; refine (numv_any _ _).mono ?_; rintro e w' ⟨rfl, rfl⟩)
              have HE := hide (own_empty (w := w4) 59 9)
              have HPA := hide (hp.at_.fut (w' := w4.alloc (.cells #[] 59)))
              go_wp2_with (at_builtin; go_loud (refine wpList_append_sl rfl (.tmp 91) (.tmp 93) 22 rfl eiNod (base := w4.heap.size) (xs := []) rfl HE.out Fit.nil_ (ys := ps.map Nod.cells) rfl (by simp) HPA.out (nods_fit _) (by first | (simp; done) | (simp; omega)) (by simp) (N := ps.length) (by simp) ?_; intro A5 c5 w5 hq1 hq2 hown5 hgr5 hbel5; have H5 := hide hown5; have F5 : Step w4 w5 := ⟨(fut w4 (w4.alloc (.cells #[] 59))).trans hbel5⟩; clear hown5 hgr5 hbel5))
              have hz5 := F5.size
              obtain ⟨V, hV⟩ : ∃ V, V = w5.alloc (.cells #[.slice A5 ps.length c5] 24) := ⟨_, rfl⟩
              obtain ⟨g, hg⟩ : ∃ g, g = w5.heap.size := ⟨_, rfl⟩
              have FV : Hid (Fut w4 V) := by rw [hV]; exact (inferInstance : Fut w4 (w5.alloc (.cells #[.slice A5 ps.length c5] 24)))
              have SV : Step w4 V := ⟨FV.out.below⟩
              have HGB : Hid (Blk V g 24 [.slice A5 ps.length c5]) := by rw [hV, hg]; exact Blk.new w5 _ 24
              have HGO : Hid (Own V w4.heap.size 59 9 (.slice A5 ps.length c5) (ps.map Nod.cells)) := by rw [hV]; exact H5.out.alloc _
              have NG : Newer w4 g := ⟨by omega⟩
              have hg4 : w4.heap.size ≤ g := by omega
              rw [← hV, ← hg]
              clear hV hg H5 HE HPA p0 lp q0 lq s0 s1 s2 ls
              go_loopw [18, 19] (fun i _ wr => ∃ (j : Nat) (A' : Option Addr) (c' : Nat), j ≤ qs.length ∧ i = .int .i64 j ∧ Blk wr g 24 [.slice A' (ps.length + j) c'] ∧ Own wr w4.heap.size 59 9 (.slice A' (ps.length + j) c') ((ps ++ (qs.take j).map (shN ps.length)).map Nod.cells) ∧ Step w4 wr) (fun i _ _ => qs.length - (intOf i).toNat)
              case atStart => exact ⟨0, A5, c5, Nat.zero_le _, rfl, HGB.out, by simpa using HGO.out, SV⟩
              case round =>
                obtain ⟨j, A', c', hj, rfl, hbp, hown, hst⟩ := hrel
                have HB := hide hbp; have HO := hide hown
                clear hbp hown HGB HGO
                obtain ⟨wo, hwo⟩ : ∃ x : World, x = wr := ⟨_, rfl⟩
                rw [← hwo] at HB HO hst
                rw [← hwo]
                clear hwo
                have hzo := hst.size
                by_cases hlt : j < qs.length
                · obtain ⟨b, off, hA, hb, x, hx, hcell⟩ := hq.node (w' := wo) inferInstance hlt
                  obtain ⟨n0, n1, n2, n3, n4, n5, n6, n7, n8⟩ := At.l9 hcell
                  have h2_ := HQB.out.fut (w' := wo)
                  have q0 := At.z1 h2_.at0
                  have lq := h2_.lt
                  have lb : b < wo.heap.size := by omega
                  have k0 := At.z1 HB.out.at0
                  have fg := HB.out.free
                  have lg := HB.out.lt
                  have hjl : (j : Int) < (qs.length : Int) := by omega
                  have hj0 : (0 : Int) ≤ (j : Int) := by omega
                  have HX := hide hx
                  rw [hA] at q0
                  clear hx hcell h2_ hA
                  go_upto_region 16 with (fail)
                  obtain ⟨LX, hLX⟩ : ∃ LX, wrap64 (x.l + (ps.length : Int)) = LX := ⟨_, rfl⟩
                  obtain ⟨RX, hRX⟩ : ∃ RX, wrap64 (x.r + (ps.length : Int)) = RX := ⟨_, rfl⟩
                  have HSH : Hid ((shN ps.length x).cells = [.int .i64 x.kind, .string x.col, .int .i64 x.cmp, .int .i64 x.v.kind, .int .i64 x.v.i, .bool x.v.b, .string x.v.s, .int .i64 LX, .int .i64 RX]) := by show _ = _; rw [← hLX, ← hRX]; simp only [shN, Nod.cells, IntKind.wrap_i64, wrap64]
                  rw [hLX, hRX]
                  clear hLX hRX n0 n1 n2 n3 n4 n5 n6 n7 n8 q0 lq lb k0 fg lg
                  have HOW := hide ((HO.out.alloc (.cells #[.int .i64 x.kind, .string x.col, .int .i64 x.cmp, .int .i64 x.v.kind, .int .i64 x.v.i, .bool x.v.b, .string x.v.s, .int .i64 LX, .int .i64 RX] 59)).alloc (.cells #[.int .i64 x.kind, .string x.col, .int .i64 x.cmp, .int .i64 x.v.kind, .int .i64 x.v.i, .bool x.v.b, .string x.v.s, .int .i64 LX, .int .i64 RX] 59))
                  have HNew := hide (SlAt.one_at (w := wo.alloc (.cells #[.int .i64 x.kind, .string x.col, .int .i64 x.cmp, .int .i64 x.v.kind, .int .i64 x.v.i, .bool x.v.b, .string x.v.s, .int .i64 LX, .int .i64 RX] 59)) (b := wo.heap.size + 1) (by simp) 9 [.int .i64 x.kind, .string x.col, .int .i64 x.cmp, .int .i64 x.v.kind, .int .i64 x.v.i, .bool x.v.b, .string x.v.s, .int .i64 LX, .int .i64 RX] 59)
                  have HB2 := hide (HB.out.fut (w' := (wo.alloc (.cells #[.int .i64 x.kind, .string x.col, .int .i64 x.cmp, .int .i64 x.v.kind, .int .i64 x.v.i, .bool x.v.b, .string x.v.s, .int .i64 LX, .int .i64 RX] 59)).alloc (.cells #[.int .i64 x.kind, .string x.col, .int .i64 x.cmp, .int .i64 x.v.kind, .int .i64 x.v.i, .bool x.v.b, .string x.v.s, .int .i64 LX, .int .i64 RX] 59)))
                  have HNF : Hid (Fit 9 [[.int .i64 x.kind, .string x.col, .int .i64 x.cmp, .int .i64 x.v.kind, .int .i64 x.v.i, .bool x.v.b, .string x.v.s, .int .i64 LX, .int .i64 RX]]) := by show Fit _ _; rw [← HSH.out]; exact nods_fit [shN ps.length x]
                  have h1_ := HB.out.fut (w' := wo.alloc (.cells #[.int .i64 x.kind, .string x.col, .int .i64 x.cmp, .int .i64 x.v.kind, .int .i64 x.v.i, .bool x.v.b, .string x.v.s, .int .i64 LX, .int .i64 RX] 59))
                  have k0 := At.z1 h1_.at0
                  have lg := h1_.lt
                  have h2_ := Blk.new wo [.int .i64 x.kind, .string x.col, .int .i64 x.cmp, .int .i64 x.v.kind, .int .i64 x.v.i, .bool x.v.b, .string x.v.s, .int .i64 LX, .int .i64 RX] 59
                  obtain ⟨n0, n1, n2, n3, n4, n5, n6, n7, n8⟩ := At.z9 h2_.at0
                  have ln := h2_.lt
                  clear h1_ h2_
                  go_wp2_with (at_builtin; go_loud (refine wpList_append_sl rfl (.tmp 117) (.tmp 119) 22 rfl eiNod (base := w4.heap.size) (xs := (ps ++ (qs.take j).map (shN ps.length)).map Nod.cells) rfl HOW.out (nods_fit _) (ys := [[.int .i64 x.kind, .string x.col, .int .i64 x.cmp, .int .i64 x.v.kind, .int .i64 x.v.i, .bool x.v.b, .string x.v.s, .int .i64 LX, .int .i64 RX]]) rfl (by simp) HNew.out HNF.out (by first | (simp; done) | (simp; omega)) (by first | (simp; done) | (simp; omega)) (N := ps.length + j + 1) (by first | (simp; done) | (simp; omega)) ?_; intro A7 c7 w7 hq1 hq2 hown7 hgr7 hbel7; have H7 := hide hown7; have hs7 : Step w4 w7 := ⟨(fut w4 ((wo.alloc (.cells #[.int .i64 x.kind, .string x.col, .int .i64 x.cmp, .int .i64 x.v.kind, .int .i64 x.v.i, .bool x.v.b, .string x.v.s, .int .i64 LX, .int .i64 RX] 59)).alloc (.cells #[.int .i64 x.kind, .string x.col, .int .i64 x.cmp, .int .i64 x.v.kind, .int .i64 x.v.i, .bool x.v.b, .string x.v.s, .int .i64 LX, .int .i64 RX] 59))).trans hbel7⟩; clear k0 lg n0 n1 n2 n3 n4 n5 n6 n7 n8 ln; have hb7 := HB2.out.grown hgr7 (HOW.out.ne_ HB2.out (by decide)); have k0 := At.z1 hb7.at0; have fg := hb7.free; have lg := hb7.lt; have HD7 := hide hb7; clear hown7 hgr7 hbel7 hb7))
                  go_roundw
                  case rel =>
                    refine ⟨j + 1, A7, c7, by omega, by go_num, HD7.out.set_ 0 _, ?_, ⟨(fut w4 w7).setCell NG.le _⟩⟩
                    have h_ := H7.out.set_other HD7.out (by decide) 0 (.slice A7 (ps.length + j + 1) c7)
                    have e_ : (ps ++ (qs.take (j + 1)).map (shN ps.length)).map Nod.cells = (ps ++ (qs.take j).map (shN ps.length)).map Nod.cells ++ [(shN ps.length x).cells] := by
                      rw [List.take_add_one, HX.out]
                      simp only [List.map_append, Option.toList_some, List.map_cons, List.map_nil, List.append_assoc]
                    rw [e_, HSH.out]
                    exact h_
                  case measure => simp [intOf]; omega
                · obtain rfl : j = qs.length := by omega
                  have k0 := At.z1 HB.out.at0
                  have fg := HB.out.free
                  have lg := HB.out.lt
                  have HO1 : Hid (Own wo w4.heap.size 59 9 (.slice A' (ps.length + qs.length) c') ((ps ++ qs.map (shN ps.length)).map Nod.cells)) := by
                    have h_ := HO.out
                    rw [List.take_length] at h_
                    exact h_
                  have HOW := hide (HO1.out.alloc (.cells #[.int .i64 4, .string ⟨#[]⟩, .int .i64 0, .int .i64 0, .int .i64 0, .bool false, .string ⟨#[]⟩, .int .i64 ((ps.length : Int) - 1), .int .i64 ((ps.length : Int) + (qs.length : Int) - 1)] 59))
                  have HNew := hide (SlAt.one wo 9 [.int .i64 4, .string ⟨#[]⟩, .int .i64 0, .int .i64 0, .int .i64 0, .bool false, .string ⟨#[]⟩, .int .i64 ((ps.length : Int) - 1), .int .i64 ((ps.length : Int) + (qs.length : Int) - 1)] 59)
                  have HB2 := hide (HB.out.fut (w' := wo.alloc (.cells #[.int .i64 4, .string ⟨#[]⟩, .int .i64 0, .int .i64 0, .int .i64 0, .bool false, .string ⟨#[]⟩, .int .i64 ((ps.length : Int) - 1), .int .i64 ((ps.length : Int) + (qs.length : Int) - 1)] 59)))
                  have HNF : Hid (Fit 9 [[.int .i64 4, .string ⟨#[]⟩, .int .i64 0, .int .i64 0, .int .i64 0, .bool false, .string ⟨#[]⟩, .int .i64 ((ps.length : Int) - 1), .int .i64 ((ps.length : Int) + (qs.length : Int) - 1)]]) := nods_fit [andN ((ps.length : Int) - 1) ((ps.length : Int) + qs.length - 1)]
                  clear HO
                  go_upto_region 18 with (at_builtin; go_loud (refine wpList_append_sl rfl (.tmp 123) (.tmp 131) 22 rfl eiNod (base := w4.heap.size) (xs := (ps ++ qs.map (shN ps.length)).map Nod.cells) rfl HOW.out (nods_fit _) (ys := [[.int .i64 4, .string ⟨#[]⟩, .int .i64 0, .int .i64 0, .int .i64 0, .bool false, .string ⟨#[]⟩, .int .i64 ((ps.length : Int) - 1), .int .i64 ((ps.length : Int) + (qs.length : Int) - 1)]]) rfl (by simp) HNew.out HNF.out (by first | (simp; done) | (simp; omega)) (by first | (simp; done) | (simp; omega)) (N := ps.length + qs.length + 1) (by first | (simp; done) | (simp; omega)) ?_; intro A7 c7 w7 hq1 hq2 hown7 hgr7 hbel7; have H7 := hide hown7; have hs7 : Step w4 w7 := ⟨(fut w4 (wo.alloc (.cells #[.int .i64 4, .string ⟨#[]⟩, .int .i64 0, .int .i64 0, .int .i64 0, .bool false, .string ⟨#[]⟩, .int .i64 ((ps.length : Int) - 1), .int .i64 ((ps.length : Int) + (qs.length : Int) - 1)] 59))).trans hbel7⟩; clear k0 fg lg; have hb7 := HB2.out.grown hgr7 (HOW.out.ne_ HB2.out (by decide)); have k0 := At.z1 hb7.at0; have fg := hb7.free; have lg := hb7.lt; have HD7 := hide hb7; clear hown7 hgr7 hbel7 hb7))
                  clear k0 fg lg HOW HNew HB2 HNF
                  obtain ⟨V8, hV8⟩ : ∃ V8, V8 = w7.setCell ⟨g, 0, none⟩ (.slice A7 (ps.length + qs.length + 1) c7) := ⟨_, rfl⟩
                  have S8 : Step w4 V8 := by rw [hV8]; exact ⟨(fut w4 w7).setCell NG.le _⟩
                  have HB8 : Hid (Blk V8 g 24 [.slice A7 (ps.length + qs.length + 1) c7]) := by rw [hV8]; exact HD7.out.set_ 0 _
                  have HPI : Hid (PrIn V8 (bothN ps qs) A7 c7) := by
                    rw [hV8]
                    have h_ := H7.out.set_other HD7.out (by decide) 0 (.slice A7 (ps.length + qs.length + 1) c7)
                    have e_ : (ps ++ qs.map (shN ps.length)).map Nod.cells ++ [[.int .i64 4, .string ⟨#[]⟩, .int .i64 0, .int .i64 0, .int .i64 0, .bool false, .string ⟨#[]⟩, .int .i64 ((ps.length : Int) - 1), .int .i64 ((ps.length : Int) + (qs.length : Int) - 1)]] = (bothN ps qs).map Nod.cells := by
                      rw [bothN, List.map_append (l₂ := [andN _ _])]
                      rfl
                    rw [e_] at h_
                    exact PrIn.of_own h_ (both_len ps qs) (by omega) HST.out
                  rw [← hV8]
                  clear hV8 HD7 H7
                  obtain ⟨hc1, hr1, hy1⟩ := HOK1.out (by first | trivial | rfl)
                  obtain ⟨hc2, _, hy2⟩ := HOK2.out (by first | trivial | rfl)
                  have hboth := both_rows hc1 hc2 HKK.out HMM.out (by have h1 := HKK.out; have h2 := HMM.out; omega) hr1
                  rw [← hy1, ← hy2] at hboth
                  have hnd : l2.Pairwise (fun x y : Int => x ≠ y) := by rw [hy2]; exact yes_nodup _ _ _ _
                  have HND := hide hnd
                  have a3 := fun w' [Fut w w'] [Fut V8 w'] => pselRows_any (bothN ps qs) A7 c7 s As cs rs Ar cr w' HPI.out hs hr
                  rw [hboth] at a3
                  unfold Sch.val at a3
                  simp only [both_len] at a3
                  have A3 := hide a3
                  clear a3 hboth hy1 hy2 hnd hc1 hc2 hr1 HPI
                  have hz8 := S8.size
                  have k0 := At.z1 HB8.out.at0
                  have lg := HB8.out.lt
                  have h3_ := HSB.out.fut (w' := V8); obtain ⟨s0, s1, s2⟩ := At.z3 h3_.at0; have ls := h3_.lt; clear h3_
                  go_wp2_with (go_at_call 11; (with_reducible refine (A3.out _).mono ?_); rintro e w9 ⟨X9, c9, rfl, ho9, hs9⟩; have HS9 := hide (ho9.sl (int_fit _).len); clear ho9)
                  clear k0 lg s0 s1 s2 ls A3
                  have hz9 := hs9.size
                  go_loopw [22, 23, 24] (fun out i _ wr => ∃ (j : Nat) (A' : Option Addr) (n' c' : Nat), j ≤ l1.length ∧ i = .int .i64 j ∧ out = .slice A' n' c' ∧ Hid ((wantTo l1 l2 j).length = n') ∧ Own wr w9.heap.size 3 1 (.slice A' n' c') (intCells (wantTo l1 l2 j)) ∧ Step w9 wr) (fun _ i _ _ => l1.length - (intOf i).toNat)
                  case atStart => exact ⟨0, none, 0, 0, Nat.zero_le _, rfl, rfl, rfl, Own.nil_ _ _ _ _, Step.of⟩
                  case round =>
                    obtain ⟨j, A2, n2, d2, hj2, rfl, rfl, HN, hown, hst2⟩ := hrel
                    have HQ := hide hown
                    clear hown
                    obtain ⟨wi, rfl⟩ : ∃ x : World, x = wr := ⟨_, rfl⟩
                    have hzi := hst2.size
                    by_cases hlt2 : j < l1.length
                    · have hjl2 : (j : Int) < (l1.length : Int) := by omega
                      have hj20 : (0 : Int) ≤ (j : Int) := by omega
                      obtain ⟨x, hx⟩ : ∃ x, l1[j]? = some x := ⟨_, List.getElem?_eq_getElem hlt2⟩
                      have hgx : l1.getD j 0 = x := by rw [List.getD_eq_getElem?_getD, hx]; rfl
                      have HWL : Hid (∀ m, (wantTo l1 l2 j ++ (l2.take m).filter (· == x)).length ≤ j + 1) := fun m => by
                        have := want_len HND.out (Nat.le_of_lt hlt2) m
                        rw [hgx] at this
                        rw [List.length_append]
                        exact this
                      have HWS : Hid (wantTo l1 l2 (j + 1) = wantTo l1 l2 j ++ l2.filter (· == x)) := by show _ = _; rw [wantTo, hgx]
                      have HX := hide hx
                      clear hx hgx
                      go_wp2_with fail
                      go_loopw [22, 24] (fun out k wr => ∃ (m : Nat) (A' : Option Addr) (n' c' : Nat), m ≤ l2.length ∧ k = .int .i64 m ∧ out = .slice A' n' c' ∧ Hid ((wantTo l1 l2 j ++ (l2.take m).filter (· == x)).length = n') ∧ Own wr w9.heap.size 3 1 (.slice A' n' c') (intCells (wantTo l1 l2 j ++ (l2.take m).filter (· == x))) ∧ Step w9 wr) (fun _ k _ => l2.length - (intOf k).toNat)
                      case atStart => exact ⟨0, A2, n2, d2, Nat.zero_le _, rfl, rfl, by have h_ := HN.out; show _ = _; simpa using h_, by have h_ := HQ.out; simpa using h_, Step.of⟩
                      case round =>
                        obtain ⟨m, A4, n4, d4, hm4, rfl, rfl, HN4, hown4, hst4⟩ := hrel
                        have HQ4 := hide hown4
                        clear hown4 HQ
                        obtain ⟨wk, rfl⟩ : ∃ x : World, x = wr := ⟨_, rfl⟩
                        have hzk := hst4.size
                        by_cases hlt4 : m < l2.length
                        · have hml : (m : Int) < (l2.length : Int) := by omega
                          have hm0 : (0 : Int) ≤ (m : Int) := by omega
                          obtain ⟨b1, o1, rfl, hb1, hc1⟩ := HS3.out.elem (w' := wk) inferInstance (k := j) (by rw [intCells_len]; exact hlt2)
                          obtain ⟨b2, o2, rfl, hb2, hc2⟩ := HS4.out.elem (w' := wk) inferInstance (k := m) (by rw [intCells_len]; exact hlt4)
                          obtain ⟨y, hy⟩ : ∃ y, l2[m]? = some y := ⟨_, List.getElem?_eq_getElem hlt4⟩
                          have p0 := At.l1 (hc1 j [.int .i64 x] (by simp [intCells, HX.out]))
                          have q0 := At.l1 (hc2 m [.int .i64 y] (by simp [intCells, hy]))
                          simp only [Nat.mul_one] at p0 q0
                          have lb1 : b1 < wk.heap.size := by omega
                          have lb2 : b2 < wk.heap.size := by omega
                          have hT : (l2.take (m + 1)).filter (· == x) = (l2.take m).filter (· == x) ++ (if y = x then [y] else []) := by
                            rw [List.take_add_one, hy, List.filter_append]
                            simp [List.filter_cons]
                          have HT := hide hT
                          clear hc1 hc2 hy hT
                          by_cases hxy : x = y
                          · subst hxy
                            have HT2 : Hid ((l2.take (m + 1)).filter (· == x) = (l2.take m).filter (· == x) ++ [x]) := by show _ = _; rw [HT.out, if_pos rfl]
                            have HW4 := hide (HWL.out m)
                            go_wp2
                            go_quiet (fail)
                            go_wp2_with (at_builtin; have HOW := hide (HQ4.out.fut (w' := (wk.drewN nq).alloc (.cells #[.int .i64 x] 3))); have HNew := hide (SlAt.one (wk.drewN nq) 1 [.int .i64 x] 3); go_loud (refine wpList_append_sl rfl (.tmp 162) (.tmp 167) 29 rfl eiInt (base := w9.heap.size) (xs := intCells (wantTo l1 l2 j ++ (l2.take m).filter (· == x))) rfl HOW.out (int_fit _) (ys := [[.int .i64 x]]) rfl (by simp) HNew.out (int_fit [x]) (by rw [intCells_len]; have h_ := HW4.out; show (_ + 1) * 8 ≤ _; omega) (by first | (simp; done) | (simp; omega)) (N := n4 + 1) (by rw [intCells_len, HN4.out]; rfl) ?_; intro A7 c7 w7 hq1 hq2 hown7 hgr7 hbel7; have H7 := hide hown7; have hs7 : Step w9 w7 := ⟨(fut w9 ((wk.drewN nq).alloc (.cells #[.int .i64 x] 3))).trans hbel7⟩; clear hown7 hgr7 hbel7))
                            go_roundw
                            case rel =>
                              refine ⟨m + 1, A7, n4 + 1, c7, by omega, by go_num, rfl, ?_, ?_, Step.of⟩
                              · show _ = _
                                rw [HT2.out, ← List.append_assoc, List.length_append, HN4.out]
                                rfl
                              · rw [HT2.out, ← List.append_assoc]
                                have h_ := H7.out
                                simpa [intCells] using h_
                            case measure => simp [intOf]; omega
                          · have hyx : ¬ y = x := fun e => hxy e.symm
                            have HT2 : Hid ((l2.take (m + 1)).filter (· == x) = (l2.take m).filter (· == x)) := by show _ = _; rw [HT.out, if_neg hyx, List.append_nil]
                            have hxyf : (x = y) = False := eq_false hxy
                            go_wp2
                            go_quiet (fail)
                            go_wp2
                            go_roundw
                            case rel => exact ⟨m + 1, A4, n4, d4, by omega, by go_num, rfl, by show _ = _; rw [HT2.out]; exact HN4.out, by rw [HT2.out]; exact HQ4.out.fut, Step.of⟩
                            case measure => simp [intOf]; omega
                        · obtain rfl : m = l2.length := by omega
                          go_wp2_with fail
                          go_roundw
                          case rel =>
                            refine ⟨j + 1, A4, n4, d4, by omega, by go_num, rfl, ?_, ?_, Step.of⟩
                            · show _ = _
                              rw [HWS.out]
                              have h_ := HN4.out
                              rw [List.take_length] at h_
                              exact h_
                            · rw [HWS.out]
                              have h_ := HQ4.out
                              rw [List.take_length] at h_
                              exact h_
                          case measure => simp [intOf]; omega
                    · obtain rfl : j = l1.length := by omega
                      obtain rfl := HN.out
                      have HSW := hide (HQ.out.sl (int_fit _).len)
                      have hwl : (wantTo l1 l2 l1.length).length ≤ 4611686018427387904 := by
                        have := want_len (a := l1) HND.out (Nat.le_refl _) 0
                        omega
                      have SI := hide (fun w' [Fut w9 w'] [Fut wi w'] => sameInts_any (wantTo l1 l2 l1.length) X9 A2 c9 d2 w' HS9.out HSW.out hwl)
                      go_wp2_with (first | (go_at_call 18; refine (numv_any _ _).mono ?_; rintro e w' ⟨rfl, rfl⟩) | (go_at_call 17; (with_reducible refine (SI.out _).mono ?_); rintro e w8 ⟨rfl, hs8⟩))
                      go_ret
                      exact ⟨rfl, Step.of⟩
      · have he2b : (e2 == 0) = false := beq_eq_false_iff_ne.2 he2
        go_wp2_with (go_at_call 18; refine (numv_any _ _).mono ?_; rintro e w' ⟨rfl, rfl⟩)
        go_ret
        exact ⟨rfl, Step.of⟩
    · have he1b : (e1 == 0) = false := beq_eq_false_iff_ne.2 he1
      go_wp2_with (go_at_call 18; refine (numv_any _ _).mono ?_; rintro e w' ⟨rfl, rfl⟩)
      go_ret
      exact ⟨rfl, Step.of⟩
  · have he0b : (e0 == 0) = false := beq_eq_false_iff_ne.2 he0
    go_wp2_with (go_at_call 18; refine (numv_any _ _).mono ?_; rintro e w' ⟨rfl, rfl⟩)
    go_ret
    exact ⟨rfl, Step.of⟩
end Go.Proofs.YtafgfehjdbomfaaDoor
