/-
  The law SelParts answers true for every predicate, schema and rows.
-/
import Derived.Test.YtafgfehjdbomfaaDoorKd
import Derived.Test.YtafgfehjdbomfaaDoorKb
import Derived.Test.YtafgfehjdbomfaaDoorHc
import Derived.Test.YtafgfehjdbomfaaDoorFlRow
namespace Go.Proofs.YtafgfehjdbomfaaDoor
open Go.RowKit

/-- New memory that holds nothing. -/
theorem own_emptyG {w : World} (t : TypeId) (size : Nat) : Own (w.alloc (.cells #[] t)) w.heap.size t size (.slice (some ⟨w.heap.size, 0, none⟩) 0 0) [] := ⟨by simp, .inr ⟨w.heap.size, 0, #[], rfl, Nat.le_refl _, heap_alloc_new w _, by simp, by simp, by simp, by simp⟩⟩
theorem selR_bad {ns : List Nod} {s : Sch} {vss : List (List Val)} (h : (selR ns s vss).2 ≠ 0) : (selR ns s vss).1 = [] := by
  unfold selR at h ⊢
  split
  · rfl
  · rename_i hc
    rw [if_neg hc] at h
    split
    · rename_i hr; rw [if_pos hr] at h; exact absurd rfl h
    · rfl
/-- How large what is taken is. -/
def FineVs (vs : List Val) : Prop := vs.length ≤ 3518437208780 ∧ ∀ v ∈ vs, v.s.size ≤ 9223372036854775807
theorem fine_clean {w : World} {r : RowA} (h : RowIn w r) : FineVs (cleanL r.vs) := by
  refine ⟨by simp only [cleanL, List.length_map]; exact h.hcapm, fun v hv => ?_⟩
  obtain ⟨u, hu, rfl⟩ := List.mem_map.1 hv
  exact clean_fine (h.strs u hu)
theorem cleanL_clean (vs : List Val) : cleanL (vs.map clean) = vs.map clean := pure_clean vs
theorem asc_next {l : List (List Val)} (h : Asc lessL l) {k : Nat} {x y : List Val} (hx : l[k]? = some x) (hy : l[k + 1]? = some y) : ¬ 0 < cmpL x y := by
  have h1 := (List.getElem?_eq_some_iff.1 hx).1
  have h2 := (List.getElem?_eq_some_iff.1 hy).1
  have h3 : lessL y x = false := by
    have := List.pairwise_iff_getElem.1 h k (k + 1) h1 h2 (by omega)
    rw [(List.getElem?_eq_some_iff.1 hx).2, (List.getElem?_eq_some_iff.1 hy).2] at this
    exact this
  unfold cmpL
  rw [h3]
  split <;> simp

set_option maxRecDepth 100000 in
set_option maxHeartbeats 16000000 in
theorem sparts_any (ps : List Nod) (Ap : Option Addr) (cp : Nat) (s : Sch) (As : Option Addr) (cs : Nat) (rs : List RowA) (Ar : Option Addr) (cr : Nat) (w : World)
    (hp : PrIn w ps Ap cp) (hs : SchIn w s As cs) (hr : RowsIn w rs Ar cr) :
    Calls Tryd.prog 5 #[.agg #[.slice Ap ps.length cp], .agg #[.int .i64 s.id, .slice As s.cols.length cs, .int .i64 s.next], .slice Ar rs.length cr] w fun e w' => e = .returned (.bool true) ∧ Step w w' := by
  have hrm := hr.hcapm
  have a1 := fun w' [Fut w w'] => pselRows_any ps Ap cp s As cs rs Ar cr w' hp hs hr
  have hbad := selR_bad (ns := ps) (s := s) (vss := rs.map RowA.vs)
  have hok1 := selR_ok (ns := ps) (s := s) (vss := rs.map RowA.vs)
  obtain ⟨T1, hT1⟩ : ∃ T, selR ps s (rs.map RowA.vs) = T := ⟨_, rfl⟩
  rw [hT1] at a1 hok1 hbad
  clear hT1
  obtain ⟨l1, e1⟩ := T1
  simp only at a1 hok1 hbad
  unfold Sch.val at a1
  have A1 := hide a1; have HOK1 := hide hok1; have HBAD := hide hbad
  obtain ⟨W, hW⟩ : ∃ W, W = (w.alloc (.cells #[.slice Ap ps.length cp] 24)).alloc (.cells #[.int .i64 s.id, .slice As s.cols.length cs, .int .i64 s.next] 27) := ⟨_, rfl⟩
  have SW : Step w W := by rw [hW]; exact Step.of
  have HPB : Hid (Blk W w.heap.size 24 [.slice Ap ps.length cp]) := by rw [hW]; exact (Blk.new w [.slice Ap ps.length cp] 24).alloc _
  have HSB : Hid (Blk W (w.heap.size + 1) 27 [.int .i64 s.id, .slice As s.cols.length cs, .int .i64 s.next]) := by rw [hW]; exact Blk.new_at (by simp) [.int .i64 s.id, .slice As s.cols.length cs, .int .i64 s.next] 27
  have HW := hide hW
  have hzW := SW.size
  clear hW a1 hok1 hbad
  go_enter Tryd.func5, Tryd.ntmps5
  go_upto_region 4 with (first
    | (go_at_call 23; refine (awake16_any _).mono ?_; rintro e w1 ⟨rfl, hs1⟩; rw [← HW.out] at hs1; have hz_ := hs1.size; have h1_ := HPB.out.fut (w' := w1); have p0 := At.z1 h1_.at0; have lp := h1_.lt; have h3_ := HSB.out.fut (w' := w1); obtain ⟨s0, s1, s2⟩ := At.z3 h3_.at0; have ls := h3_.lt; clear h1_ h3_ hz_)
    | (go_at_call 11; (with_reducible refine (A1.out _).mono ?_); rintro e w3 ⟨X1, c1, rfl, ho3, hs3⟩; have HO3 := hide ho3; clear ho3 p0 lp s0 s1 s2 ls))
  clear A1
  have HS3 := hide (HO3.out.sl (int_fit l1).len)
  clear HO3
  have hz3 := (fut W w3).size
  by_cases he1 : e1 = 0
  · subst he1
    by_cases hbig : 4096 < rs.length
    · have hbi : (4096 : Int) < (rs.length : Int) := by omega
      by_cases hl0 : l1.length = 0
      · have hl0i : (l1.length : Int) = 0 := by omega
        go_wp2_with (go_at_call 18; refine (numv_any _ _).mono ?_; rintro e w' ⟨rfl, rfl⟩)
        go_ret
        exact ⟨rfl, Step.of⟩
      · have hl0i : ¬ (l1.length : Int) = 0 := by omega
        have hl0b : ((l1.length : Int) == 0) = false := beq_eq_false_iff_ne.2 hl0i
        go_wp2_with (go_at_call 18; refine (numv_any _ _).mono ?_; rintro e w' ⟨rfl, rfl⟩)
        go_ret
        exact ⟨rfl, Step.of⟩
    · have hbi : ¬ (4096 : Int) < (rs.length : Int) := by omega
      obtain ⟨hc1, hr1, hy1⟩ := HOK1.out (by first | trivial | rfl)
      obtain ⟨a, b, ha, hb, hab, hperm, hal, hbl⟩ := parts_perm (ns := ps) (s := s) (vss := rs.map RowA.vs)
      have hwo := without_yes ps s (rs.map RowA.vs) (rs.map RowA.vs).length (by rw [List.length_map]; omega)
      rw [← hy1] at ha hal hwo
      obtain ⟨no, hno⟩ : ∃ no, noTo ps s (rs.map RowA.vs) (rs.map RowA.vs).length = no := ⟨_, rfl⟩
      rw [hno] at hb hbl hwo
      rw [List.length_map] at hab hwo
      have hfab : ∀ vs, vs ∈ a ++ b → FineVs vs ∧ Pure vs := fun vs hv => by
        obtain ⟨vs', hv', rfl⟩ := List.mem_map.1 (hperm.mem_iff.1 hv)
        obtain ⟨r, hr_, rfl⟩ := List.mem_map.1 hv'
        exact ⟨fine_clean (hr.rows r hr_), pure_clean _⟩
      have HFAB := hide hfab; have HPERM := hide hperm
      have hl1 : l1.length ≤ 4096 := by omega
      have hnol : no.length ≤ 4096 := by omega
      have b1 := fun w' [Fut w3 w'] => pwithout_any (rs.length : Int) l1 X1 c1 w' HS3.out (by omega)
      rw [hwo] at b1
      have B1 := hide b1
      have t1 : ∀ w' [Fut w w'] [Fut w3 w'], Calls Tryd.prog 13 #[.slice Ar rs.length cr, .slice X1 l1.length c1] w' fun e w'' => ∃ (A' : Option Addr) (c' : Nat) (os : List RowA), os.map RowA.vs = a ∧ os.length = a.length ∧ e = .returned (.tuple #[.slice A' a.length c', .int .i64 0]) ∧ OwnR w'' w'.heap.size A' a.length c' os ∧ Step w' w'' := by
        intro w' _ _
        refine (ptake_any rs Ar cr l1 X1 c1 w' hr HS3.out (by omega)).mono ?_
        rw [ha]
        rintro e w'' ⟨A', c', os, h1, rfl, h3, h4⟩
        have h5 : os.length = a.length := by have := congrArg List.length h1; simpa using this
        exact ⟨A', c', os, h1, h5, by rw [h5], by rw [← h5]; exact h3, h4⟩
      have TA := hide t1
      have HHB := hide hb
      clear hfab hperm hwo b1 t1 ha hy1 hc1 hr1 hno hb hal hbl
      go_upto_region 8 with (first
        | (go_at_call 18; refine (numv_any _ _).mono ?_; rintro e w' ⟨rfl, rfl⟩)
        | (go_at_call 15; (with_reducible refine (B1.out _).mono ?_); rintro e w4 ⟨X4, c4, rfl, ho4, hs4⟩; have HS4 := hide (ho4.sl (int_fit no).len); clear ho4)
        | (go_at_call 13; (with_reducible refine (TA.out _).mono ?_); rintro e w5 ⟨X5, c5, o5, hv5, hn5, rfl, ho5, hs5⟩; have HV5 := hide hv5; have HN5 := hide hn5; have HO5 := hide ho5; clear ho5 hv5 hn5))
      have hz4 := (fut w3 w4).size
      have hz5 := (fut w4 w5).size
      have t2 : ∀ w' [Fut w w'] [Fut w4 w'], Calls Tryd.prog 13 #[.slice Ar rs.length cr, .slice X4 no.length c4] w' fun e w'' => ∃ (A' : Option Addr) (c' : Nat) (os : List RowA), os.map RowA.vs = b ∧ os.length = b.length ∧ e = .returned (.tuple #[.slice A' b.length c', .int .i64 0]) ∧ OwnR w'' w'.heap.size A' b.length c' os ∧ Step w' w'' := by
        intro w' _ _
        refine (ptake_any rs Ar cr no X4 c4 w' hr HS4.out (by omega)).mono ?_
        rw [HHB.out]
        rintro e w'' ⟨A', c', os, h1, rfl, h3, h4⟩
        have h5 : os.length = b.length := by have := congrArg List.length h1; simpa using this
        exact ⟨A', c', os, h1, h5, by rw [h5], by rw [← h5]; exact h3, h4⟩
      have TB := hide t2
      clear t2 TA B1
      have habi : (a.length : Int) + (b.length : Int) = (rs.length : Int) := by omega
      have hwr : IntKind.i64.wrap ((a.length : Int) + (b.length : Int)) = (rs.length : Int) := by rw [IntKind.wrap_i64]; omega
      go_upto_region 9 with (go_at_call 13; (with_reducible refine (TB.out _).mono ?_); rintro e w6 ⟨X6, c6, o6, hv6, hn6, rfl, ho6, hs6⟩; have HV6 := hide hv6; have HN6 := hide hn6; have HO6 := hide ho6; clear ho6 hv6 hn6)
      have hz6 := (fut w5 w6).size
      have HR5 : Hid (RowsIn w5 o5 X5 c5) := by
        have q := HO5.out
        rw [← HN5.out] at q
        exact q.rin (by rw [HN5.out]; omega) (fun vs hv => (HFAB.out vs (by rw [← HV5.out]; exact List.mem_append.2 (.inl hv))).1)
      have HR6 : Hid (RowsIn w6 o6 X6 c6) := by
        have q := HO6.out
        rw [← HN6.out] at q
        exact q.rin (by rw [HN6.out]; omega) (fun vs hv => (HFAB.out vs (by rw [← HV6.out]; exact List.mem_append.2 (.inr hv))).1)
      clear HO5 HO6 TB
      go_upto_region 11 with (go_at_call 18; refine (numv_any _ _).mono ?_; rintro e w' ⟨rfl, rfl⟩)
      have HE := hide (own_emptyG (w := w6) 54 1)
      have HSA := hide (HR5.out.at_.fut (w' := w6.alloc (.cells #[] 54)))
      go_upto_region 12 with (at_builtin; go_loud (refine wpList_append_sl rfl (.tmp 86) (.tmp 87) 28 rfl eiRow (base := w6.heap.size) (xs := []) rfl HE.out Fit.nil_ (ys := o5.map RowA.cells) rfl (by rw [List.length_map, HN5.out]) HSA.out (rows_fit _) (by rw [List.length_map, HN5.out]; show (0 + _) * 24 ≤ _; omega) (fut w6 (w6.alloc (.cells #[] 54))).size (N := a.length) (by rw [List.length_map, HN5.out]; simp) ?_; intro A7 c7 w7 hq1 hq2 hown7 hgr7 hbel7; have H7 : Hid (Own w7 w6.heap.size 54 1 (.slice A7 a.length c7) (o5.map RowA.cells)) := hown7; have hs7 : Step w6 w7 := ⟨(fut w6 (w6.alloc (.cells #[] 54))).trans hbel7⟩; clear hown7 hgr7 hbel7))
      have HSB6 := hide (HR6.out.at_.fut (w' := w7))
      have hz7 := hs7.size
      go_upto_region 13 with (at_builtin; go_loud (refine wpList_append_sl rfl (.tmp 89) (.tmp 90) 28 rfl eiRow (base := w6.heap.size) (xs := o5.map RowA.cells) rfl H7.out (rows_fit _) (ys := o6.map RowA.cells) rfl (by rw [List.length_map, HN6.out]) HSB6.out (rows_fit _) (by rw [List.length_map, List.length_map, HN5.out, HN6.out]; omega) hz7 (N := rs.length) (by rw [List.length_map, List.length_map, HN5.out, HN6.out]; omega) ?_; intro A8 c8 w8 hq1 hq2 hown8 hgr8 hbel8; have H8 := hide hown8; have hs8 : Step w6 w8 := ⟨(fut w6 w7).trans hbel8⟩; clear hown8 hgr8 hbel8))
      have hz8 := hs8.size
      have hn8 : (o5 ++ o6).length = rs.length := by rw [List.length_append, HN5.out, HN6.out]; exact hab
      have HR8 : Hid (RowsIn w8 (o5 ++ o6) A8 c8) := by
        have h_ := H8.out
        rw [← List.map_append] at h_
        obtain ⟨A', c', hv, h1, h2, h3, _⟩ := h_.slice (rows_fit (o5 ++ o6)).len (by rw [List.length_map, hn8])
        injection hv with q1 q2 q3
        subst q1 q3
        refine ⟨by rw [hn8]; exact h1, by rw [hn8]; exact hrm, by simpa [maxLen] using h2, h3, fun r hr_ => ?_⟩
        rcases List.mem_append.1 hr_ with q | q
        · exact (HR5.out.rows r q).fut
        · exact (HR6.out.rows r q).fut
      have q1 := fun w' [Fut w8 w'] => psort_any (o5 ++ o6) A8 c8 w' HR8.out
      rw [hn8] at q1
      have q2 := fun w' [Fut w w'] => psort_any rs Ar cr w' hr
      have Q1 := hide q1; have Q2 := hide q2; have HN8 := hide hn8
      clear q1 q2 hn8 HE HSA HSB6 H7 H8
      go_upto_region 14 with (first
        | (go_at_call 24; (with_reducible refine (Q1.out _).mono ?_); rintro e w9 ⟨X9, c9, o9, rfl, hn9, has9, hp9, ho9, hs9⟩; have HN9 := hide hn9; have HAS9 := hide has9; have HP9 := hide hp9; have HO9 := hide ho9; clear hn9 has9 hp9 ho9)
        | (go_at_call 24; (with_reducible refine (Q2.out _).mono ?_); rintro e w10 ⟨X10, c10, o10, rfl, hn10, has10, hp10, ho10, hs10⟩; have HN10 := hide hn10; have HAS10 := hide has10; have HP10 := hide hp10; have HO10 := hide ho10; clear hn10 has10 hp10 ho10))
      have hz9 := (fut w8 w9).size
      have hz10 := (fut w9 w10).size
      have hp10 : ∀ vs ∈ o10.map RowA.vs, FineVs vs ∧ Pure vs := fun vs hv => by
        obtain ⟨r, hr_, rfl⟩ := List.mem_map.1 (HP10.out.mem_iff.1 hv)
        exact ⟨fine_clean (hr.rows r hr_), pure_clean _⟩
      have he : o9.map RowA.vs = o10.map RowA.vs := by
        refine (sorted_one HAS10.out HAS9.out ?_ (fun x hx => (hp10 x hx).2)).symm
        refine HP10.out.trans (List.Perm.trans ?_ HP9.out.symm)
        have h1 : (o5 ++ o6).map (fun r => cleanL r.vs) = a ++ b := by
          rw [← HV5.out, ← HV6.out, ← List.map_append]
          refine List.map_congr_left fun r hr_ => ?_
          exact (HFAB.out r.vs (by rw [← HV5.out, ← HV6.out, ← List.map_append]; exact List.mem_map.2 ⟨r, hr_, rfl⟩)).2
        rw [h1]
        refine List.Perm.trans ?_ HPERM.out.symm
        rw [List.map_map]
        exact List.Perm.refl _
      have HR10 : Hid (RowsIn w10 o10 X10 c10) := by
        have q := HO10.out
        rw [← HN10.out] at q
        exact q.rin (by rw [HN10.out]; omega) (fun vs hv => (hp10 vs hv).1)
      have HR9 : Hid (RowsIn w9 o9 X9 c9) := by
        have q := HO9.out
        rw [← HN9.out] at q
        exact q.rin (by rw [HN9.out]; omega) (fun vs hv => (hp10 vs (by rw [← he]; exact hv)).1)
      have SR := fun w' [Fut w9 w'] [Fut w10 w'] => sameRows_any o9 o10 X9 X10 c9 c10 w' HR9.out HR10.out he
      rw [HN9.out, HN10.out] at SR
      have SR := hide SR
      clear he hp10 HO9 HO10 Q1 Q2 HP9 HP10
      go_wp2_with fail
      go_loopw [18] (fun i wr => ∃ k : Nat, (k = 0 ∨ k < rs.length) ∧ i = .int .i64 ((k : Int) + 1) ∧ Step w10 wr) (fun i _ => rs.length - (intOf i).toNat)
      case atStart => exact ⟨0, .inl rfl, rfl, Step.of⟩
      case round =>
        obtain ⟨k, hk, rfl, hst⟩ := hrel
        obtain ⟨wo, rfl⟩ : ∃ x : World, x = wr := ⟨_, rfl⟩
        have hzo := hst.size
        by_cases hlt : k + 1 < rs.length
        · obtain ⟨bb, off, rfl, hbb, x, hx, hxi, p0⟩ := HR10.out.row (w' := wo) inferInstance (k := k) (by rw [HN10.out]; omega)
          obtain ⟨b3, off3, he3, hb3, y, hy, hyi, q0⟩ := HR10.out.row (w' := wo) inferInstance (k := k + 1) (by rw [HN10.out]; omega)
          cases he3
          have hcm : ¬ 0 < cmpL x.vs y.vs := asc_next HAS10.out (k := k) (by simp [hx]) (by simp [hy])
          have RC := fun w' [Fut w10 w'] => rrowcmp_any x y w' hxi hyi
          obtain ⟨cv, hcv⟩ : ∃ cv, cmpL x.vs y.vs = cv := ⟨_, rfl⟩
          rw [hcv] at RC hcm
          have RC := hide RC
          have lb : bb < wo.heap.size := by omega
          have hki : (k : Int) + 1 < (rs.length : Int) := by omega
          have hk0 : (0 : Int) ≤ (k : Int) := by omega
          have hk1 : (0 : Int) ≤ (k : Int) + 1 := by omega
          have hkw : IntKind.i64.wrap (k : Int) = (k : Int) := by rw [IntKind.wrap_i64]; omega
          have hkr : (k : Int) < (rs.length : Int) := by omega
          have hsw : Fut w10 wo := inferInstance
          have q1 : wo.cell? ⟨bb, off + (k + 1), none⟩ = some (.slice y.A y.vs.length y.cap) := q0
          clear hx hy hcv
          go_upto_region 17 with (fail)
          refine wp_region_held_drew (S := (fun w' => Step wo w' ∧ (∀ b o, b < wo.heap.size → w'.cell? ⟨b, o, none⟩ = wo.cell? ⟨b, o, none⟩))) (by kernel_rfl) (by (try dsimp only); (first | exact ⟨hS1, hS2⟩ | exact ⟨Step.of, (bcell (fut _ _)).1⟩)) (fun hHeld => ?_)
          refine wpAnyH_take (i := 0) (oi := ⟨some 102, _, _, _, _, _⟩) (v := ?_) rfl (by kernel_rfl) (by kernel_rfl) (by kernel_rfl) (fun _ _ _ h => h) (Or.inl ⟨by rfl, ?_⟩) (by assumption) ?_
          rotate_left
          · ((intro w hSw); (try dsimp only at hSw); go_simp; (try with_reducible rfl))
          (try simp only [Act.put, List.setIfInBounds_toArray, List.set_cons_zero, List.set_cons_succ])
          refine wpAnyH_take (i := 1) (oi := ⟨some 103, _, _, _, _, _⟩) (v := ?_) rfl (by kernel_rfl) (by kernel_rfl) (by kernel_rfl) (fun _ _ _ h => h) (Or.inl ⟨by rfl, ?_⟩) (by assumption) ?_
          rotate_left
          · ((intro w hSw); (try dsimp only at hSw); go_simp; (try with_reducible rfl))
          (try simp only [Act.put, List.setIfInBounds_toArray, List.set_cons_zero, List.set_cons_succ])
          refine wpAnyH_take (i := 5) (oi := ⟨some 107, _, _, _, _, _⟩) (v := ?_) rfl (by kernel_rfl) (by kernel_rfl) (by kernel_rfl) (fun _ _ _ h => h) (Or.inl ⟨by rfl, ?_⟩) (by assumption) ?_
          rotate_left
          · ((intro w hSw); (try dsimp only at hSw); go_simp; (try with_reducible rfl))
          (try simp only [Act.put, List.setIfInBounds_toArray, List.set_cons_zero, List.set_cons_succ])
          refine wpAnyH_take (i := 6) (oi := ⟨some 108, _, _, _, _, _⟩) (v := ?_) rfl (by kernel_rfl) (by kernel_rfl) (by kernel_rfl) (fun _ _ _ h => h) (Or.inl ⟨by rfl, ?_⟩) (by assumption) ?_
          rotate_left
          · ((intro w hSw); (try dsimp only at hSw); go_simp; (try with_reducible rfl))
          (try simp only [Act.put, List.setIfInBounds_toArray, List.set_cons_zero, List.set_cons_succ])
          refine wpAnyH_take (i := 2) (oi := ⟨some 104, _, _, _, _, _⟩) (v := ?_) rfl (by kernel_rfl) (by kernel_rfl) (by kernel_rfl) (fun _ _ _ h => h) (Or.inl ⟨by rfl, ?_⟩) (by assumption) ?_
          rotate_left
          · ((intro w hSw); (try dsimp only at hSw); go_simp; (try with_reducible rfl))
          (try simp only [Act.put, List.setIfInBounds_toArray, List.set_cons_zero, List.set_cons_succ])
          refine wpAnyH_take (i := 7) (oi := ⟨some 109, _, _, _, _, _⟩) (v := ?_) rfl (by kernel_rfl) (by kernel_rfl) (by kernel_rfl) (fun _ _ _ h => h) (Or.inl ⟨by rfl, ?_⟩) (by assumption) ?_
          rotate_left
          · ((intro w hSw); (try dsimp only at hSw); go_simp; (try with_reducible rfl))
          (try simp only [Act.put, List.setIfInBounds_toArray, List.set_cons_zero, List.set_cons_succ])
          refine wpAnyH_take (i := 3) (oi := ⟨some 105, _, _, _, _, _⟩) (v := ?_) rfl (by kernel_rfl) (by kernel_rfl) (by kernel_rfl) (fun _ _ _ h => h) (Or.inl ⟨by rfl, ?_⟩) (by assumption) ?_
          rotate_left
          · ((intro w hSw); (try dsimp only at hSw); go_simp; (try with_reducible rfl))
          (try simp only [Act.put, List.setIfInBounds_toArray, List.set_cons_zero, List.set_cons_succ])
          refine wpAnyH_take (i := 8) (oi := ⟨some 110, _, _, _, _, _⟩) (v := ?_) rfl (by kernel_rfl) (by kernel_rfl) (by kernel_rfl) (fun _ _ _ h => h) (Or.inl ⟨by rfl, ?_⟩) (by assumption) ?_
          rotate_left
          · ((intro w hSw); (try dsimp only at hSw); go_simp; (try with_reducible rfl))
          (try simp only [Act.put, List.setIfInBounds_toArray, List.set_cons_zero, List.set_cons_succ])
          refine wpAnyH_take (i := 4) (oi := ⟨some 106, _, _, _, _, _⟩) (v := ?_) rfl (by kernel_rfl) (by kernel_rfl) (by kernel_rfl) (fun _ _ _ h => h) (Or.inl ⟨by rfl, ?_⟩) (by assumption) ?_
          rotate_left
          · ((intro w hSw); (try dsimp only at hSw); go_simp; (try with_reducible rfl))
          (try simp only [Act.put, List.setIfInBounds_toArray, List.set_cons_zero, List.set_cons_succ])
          refine wpAnyH_ready (rs := [9]) (by kernel_rfl) (by simp) ?_
          refine AllReadyH.cons (o := ⟨some 111, _, _, _, _, _⟩) rfl (fun K hK => ?_) AllReadyH.nil
          obtain ⟨hS1, hS2⟩ := hHeld
          go_simp
          (go_at_call 26; (with_reducible refine (RC.out _).mono ?_); rintro e w11 ⟨rfl, hs11⟩)
          refine hK.out _ _ (by (try dsimp only); (first | exact ⟨hS1, hS2⟩ | exact ⟨Step.of, (bcell (fut _ _)).1⟩)) (fun hHeld => ?_)
          clear hK K
          (try simp only [Act.put, List.setIfInBounds_toArray, List.set_cons_zero, List.set_cons_succ])
          refine wpAnyH_take (i := 10) (oi := ⟨some 112, _, _, _, _, _⟩) (v := ?_) rfl (by kernel_rfl) (by kernel_rfl) (by kernel_rfl) (fun _ _ _ h => h) (Or.inl ⟨by rfl, ?_⟩) (by assumption) ?_
          rotate_left
          · ((intro w hSw); (try dsimp only at hSw); go_simp; (try with_reducible rfl))
          (try simp only [Act.put, List.setIfInBounds_toArray, List.set_cons_zero, List.set_cons_succ])
          refine wpAnyH_done (by kernel_rfl) ?_ _
          clear hHeld p0 q0 q1 lb
          go_wp2_with fail
          go_roundw
          case rel => exact ⟨k + 1, .inr (by omega), by go_num, Step.of⟩
          case measure => simp [intOf]; omega
        · have hkn : ¬ (k : Int) + 1 < (rs.length : Int) := by omega
          go_wp2_with (go_at_call 19; (with_reducible refine (SR.out _).mono ?_); rintro e w12 ⟨rfl, hs12⟩)
          go_ret
          exact ⟨rfl, Step.of⟩
  · have he1b : (e1 == 0) = false := beq_eq_false_iff_ne.2 he1
    obtain rfl : l1 = [] := HBAD.out he1
    go_wp2_with (go_at_call 18; refine (numv_any _ _).mono ?_; rintro e w' ⟨rfl, rfl⟩)
    go_ret
    exact ⟨rfl, Step.of⟩
end Go.Proofs.YtafgfehjdbomfaaDoor
