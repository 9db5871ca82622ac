/-
  The law PruneOne answers true for every input.
-/
import Derived.Test.YtcgpfllkbflbhaaDoorTg
import Derived.Test.YtcgpfllkbflbhaaDoorTq
import Derived.Test.YtcgpfllkbflbhaaDoorPl
import Derived.Test.YtcgpfllkbflbhaaDoorQt
namespace Go.Proofs.YtcgpfllkbflbhaaDoor
open Go.RowKit

theorem eiSta : EI Tryd.prog 69 71 10 96 :=
  ⟨Tryd.underlying69, info_parts (show (Tryd.prog.info? 71).map (fun i => (i.zero, i.size, i.bytes)) = some (some (.agg #[.int .i64 0, .int .i64 0, .int .i64 0, .int .i64 0, .bool false, .string .empty, .int .i64 0, .int .i64 0, .bool false, .string .empty]), 10, 96) by kernel_rfl) |>.elim fun i h => ⟨i, _, h.1, h.2.1, h.2.2.1, h.2.2.2, rfl⟩, by decide, by decide⟩
theorem sta_fit1 (t : Sta) : t.cells.length = 10 ∧ ∀ u ∈ t.cells, u.oneCell' = true := by
  refine ⟨rfl, fun u hu => ?_⟩
  simp [Sta.cells] at hu
  rcases hu with rfl | rfl | rfl | rfl | rfl | rfl | rfl | rfl | rfl | rfl <;> rfl
theorem sta_fit (l : List Sta) : Fit 10 (l.map Sta.cells) := Fit.map sta_fit1 l
theorem SlAt.single {w : World} {B size b off : Nat} {cs : List Value} (h : At w b off cs) (hb : b < B) : SlAt w B size (some ⟨b, off, none⟩) [cs] := fun _ => ⟨b, off, rfl, hb, fun i cs' hi => by
  cases i with
  | zero => simp at hi; subst hi; simpa using h
  | succ i => simp at hi⟩
theorem oneS_take {s : Sch} {vs : List Val} {k : Nat} {c : Col} {v : Val} (hc : s.cols[k]? = some c) (hv : vs[k]? = some v) : (oneS s vs).take (k + 1) = (oneS s vs).take k ++ [statR c.id [v]] := by
  rw [List.take_add_one, oneS_get hc hv]
  rfl

set_option maxRecDepth 100000 in
set_option maxHeartbeats 16000000 in
theorem pone_any (x : Nod) (s : Sch) (As : Option Addr) (cs : Nat) (vs : List Val) (Av : Option Addr) (cv : Nat) (w : World)
    (hx : x.col.size ≤ 9223372036854775807 ∧ x.v.s.size ≤ 9223372036854775807) (hs : SchIn w s As cs) (hv : SlAt w w.heap.size 4 Av (vs.map Val.cells)) (hcv : vs.length ≤ cv) (hcm : cv ≤ 3518437208780) (hvs : ∀ v ∈ vs, v.s.size ≤ 9223372036854775807) :
    Calls Tryd.prog 8 #[.agg #[.int .i64 x.kind, .string x.col, .int .i64 x.cmp, .int .i64 x.v.kind, .int .i64 x.v.i, .bool x.v.b, .string x.v.s, .int .i64 x.l, .int .i64 x.r], s.val As cs, .agg #[.slice Av vs.length cv]] w fun e w' => e = .returned (.bool true) ∧ Step w w' := by
  unfold Sch.val
  have HVS := hide hvs
  clear hvs
  obtain ⟨W, hW⟩ : ∃ W, W = ((w.alloc (.cells #[.int .i64 x.kind, .string x.col, .int .i64 x.cmp, .int .i64 x.v.kind, .int .i64 x.v.i, .bool x.v.b, .string x.v.s, .int .i64 x.l, .int .i64 x.r] 55)).alloc (.cells #[.int .i64 s.id, .slice As s.cols.length cs, .int .i64 s.next] 27)).alloc (.cells #[.slice Av vs.length cv] 30) := ⟨_, rfl⟩
  have SW : Step w W := by rw [hW]; exact Step.of
  have HXB : Hid (Blk W w.heap.size 55 [.int .i64 x.kind, .string x.col, .int .i64 x.cmp, .int .i64 x.v.kind, .int .i64 x.v.i, .bool x.v.b, .string x.v.s, .int .i64 x.l, .int .i64 x.r]) := by rw [hW]; exact ((Blk.new w [.int .i64 x.kind, .string x.col, .int .i64 x.cmp, .int .i64 x.v.kind, .int .i64 x.v.i, .bool x.v.b, .string x.v.s, .int .i64 x.l, .int .i64 x.r] 55).alloc _).alloc _
  have HSB : Hid (Blk W (w.heap.size + 1) 27 [.int .i64 s.id, .slice As s.cols.length cs, .int .i64 s.next]) := by rw [hW]; exact (Blk.new_at (by simp) [.int .i64 s.id, .slice As s.cols.length cs, .int .i64 s.next] 27).alloc _
  have HRB : Hid (Blk W (w.heap.size + 2) 30 [.slice Av vs.length cv]) := by rw [hW]; exact Blk.new_at (by simp) [.slice Av vs.length cv] 30
  have hzW := SW.size
  have HW := hide hW
  clear hW
  go_enter Tryd.func8, Tryd.ntmps8
  go_wp2_with fail
  rw [← HW.out]
  refine (awake18_any _).mono ?_
  rintro e w1 ⟨rfl, hs1⟩
  obtain ⟨a0, a1, a2, a3, a4, a5, a6, a7, a8⟩ := At.z9 (HXB.out.fut (w' := w1)).at0; have la := (HXB.out.fut (w' := w1)).lt
  go_upto_region 4 with (fail)
  clear a0 a1 a2 a3 a4 a5 a6 a7 a8 la
  obtain ⟨V, hV⟩ : ∃ V, V = (w1.alloc (.cells #[.int .i64 x.kind, .string x.col, .int .i64 x.cmp, .int .i64 x.v.kind, .int .i64 x.v.i, .bool x.v.b, .string x.v.s, .int .i64 x.l, .int .i64 x.r] 55)).alloc (.cells #[.slice (some ⟨w1.heap.size, 0, none⟩) 1 1] 24) := ⟨_, rfl⟩
  have SV : Step w1 V := by rw [hV]; exact Step.of
  have HNB : Hid (Blk V w1.heap.size 55 [.int .i64 x.kind, .string x.col, .int .i64 x.cmp, .int .i64 x.v.kind, .int .i64 x.v.i, .bool x.v.b, .string x.v.s, .int .i64 x.l, .int .i64 x.r]) := by rw [hV]; exact (Blk.new w1 [.int .i64 x.kind, .string x.col, .int .i64 x.cmp, .int .i64 x.v.kind, .int .i64 x.v.i, .bool x.v.b, .string x.v.s, .int .i64 x.l, .int .i64 x.r] 55).alloc _
  have HPB : Hid (Blk V (w1.heap.size + 1) 24 [.slice (some ⟨w1.heap.size, 0, none⟩) 1 1]) := by rw [hV]; exact Blk.new_at (by simp) [.slice (some ⟨w1.heap.size, 0, none⟩) 1 1] 24
  rw [← hV]
  clear hV
  have HPI : Hid (PrIn V [x] (some ⟨w1.heap.size, 0, none⟩) 1) := ⟨by simp, by decide, by simp, SlAt.of_blk1 HNB.out rfl (nods_fit [x]).len, fun n hn => by simp at hn; rw [hn]; exact hx⟩
  have t1 := fun w' [Fut V w'] [Fut w w'] => rtruthR_any [x] (some ⟨w1.heap.size, 0, none⟩) 1 s As cs vs Av cv w' HPI.out hs hv (by omega) HVS.out
  obtain ⟨t, te, hT⟩ : ∃ t te, truthR [x] s vs = (t, te) := ⟨_, _, rfl⟩
  rw [hT] at t1
  unfold Sch.val at t1
  have T1 := hide t1; clear t1
  have HT := hide hT
  clear hT
  obtain ⟨q0, q1, q2⟩ := At.z3 (HSB.out.fut (w' := V)).at0; have lq := (HSB.out.fut (w' := V)).lt
  have p0 := At.z1 HPB.out.at0; have lp := HPB.out.lt
  have r0 := At.z1 (HRB.out.fut (w' := V)).at0; have lr := (HRB.out.fut (w' := V)).lt
  go_wp2_with fail
  refine (T1.out _).mono ?_
  rintro e W2 ⟨rfl, hs2⟩
  clear q0 q1 q2 lq p0 lp r0 lr T1
  have zz := hs2.size
  have zz1 := SV.size
  have zz2 := hs1.size
  by_cases he : te = 0
  · subst he
    obtain ⟨a0, _, _, _, _, _, _, _, _⟩ := At.z9 (HXB.out.fut (w' := W2)).at0; have la := (HXB.out.fut (w' := W2)).lt
    by_cases h12 : x.kind = 1 ∨ x.kind = 2
    · have OS := hide (one_stats (x := x) (s := s) (vs := vs) (by rw [HT.out]) h12)
      have TY := hide (truth_yes (ns := [x]) (s := s) (vs := vs) (by rw [HT.out]))
      have hlen : vs.length = s.cols.length := by
        by_cases h : vs.length = s.cols.length
        · exact h
        · have := TY.out.2.1; rw [rowB_len h] at this; cases this
      have h12c : s.cols.length ≤ 12 := (mayB_head (checkE_inv TY.out.1).2.1).2.2.2.1
      have HLEN := hide hlen
      clear hlen
      obtain ⟨q0, q1, q2⟩ := At.z3 (HSB.out.fut (w' := W2)).at0; have lq := (HSB.out.fut (w' := W2)).lt
      have r0 := At.z1 (HRB.out.fut (w' := W2)).at0; have lr := (HRB.out.fut (w' := W2)).lt
      have h12' : (x.kind != 1) = false ∨ (x.kind != 1) = true ∧ (x.kind != 2) = false := by rcases h12 with h | h <;> simp [h]
      clear h12
      rcases h12' with e1 | ⟨e1, e2⟩
      all_goals
        go_wp2_with fail
        go_loopw [10, 11] (fun all i wr => ∃ (k : Nat) (A' : Option Addr) (c' : Nat), k ≤ s.cols.length ∧ i = .int .i64 k ∧ all = .slice A' k c' ∧ Own wr W2.heap.size 71 10 (.slice A' k c') (((oneS s vs).take k).map Sta.cells) ∧ Step W2 wr) (fun _ i _ => s.cols.length - (intOf i).toNat)
        case atStart => exact ⟨0, none, 0, Nat.zero_le _, rfl, rfl, Own.nil_ _ _ _ _, Step.of⟩
        case round =>
          obtain ⟨k, A', c', hk, rfl, rfl, hown, hst⟩ := hrel
          have HO := hide hown; clear hown
          have hs3_ := hst.size
          obtain ⟨g0, g1, g2⟩ := At.z3 (HSB.out.fut (w' := wr)).at0; have lg := (HSB.out.fut (w' := wr)).lt
          by_cases hlt : k < s.cols.length
          · obtain ⟨b, off, rfl, hb, hc⟩ := hs.at_.elem (w' := W2) inferInstance (k := k) (by simpa using hlt)
            obtain ⟨c, hck⟩ : ∃ c, s.cols[k]? = some c := ⟨_, List.getElem?_eq_getElem hlt⟩
            obtain ⟨c0, c1, c2⟩ := At.l3 (hc k c.cells (by simp [hck]))
            have hlb : b < W2.heap.size := by omega
            have hkv : k < vs.length := by have := HLEN.out; omega
            obtain ⟨v, hvk⟩ : ∃ v, vs[k]? = some v := ⟨_, List.getElem?_eq_getElem hkv⟩
            obtain ⟨bv, ov, rfl, hbv, hcv_⟩ := hv.elem (w' := w) (Fut.self _) (k := k) (by simpa using hkv)
            have HSV : Hid (SlAt w w.heap.size 4 (some ⟨bv, ov + k * 4, none⟩) ([v].map Val.cells)) := SlAt.single (hcv_ k v.cells (by simp [hvk])) hbv
            have HTK := hide (oneS_take hck hvk)
            have HLT : Hid ((((oneS s vs).take k).map Sta.cells).length = k) := by show _ = _; simp; rw [oneS_len HLEN.out]; omega
            have rs := fun w' [Fut w w'] => rstat_any (w0 := w) c.id [v] (some ⟨bv, ov + k * 4, none⟩) (cv - k) w' HSV.out (by simp) (fun u hu => by simp at hu; rw [hu]; exact HVS.out v (List.mem_of_getElem? hvk))
            obtain ⟨T, hT⟩ : ∃ T, statR c.id [v] = T := ⟨_, rfl⟩
            rw [hT, show ([v] : List Val).length = 1 from rfl] at rs
            rw [hT] at HTK
            have RS := hide rs
            have hkl : (k : Int) < (s.cols.length : Int) := by omega
            have hk0 : (0 : Int) ≤ (k : Int) := by omega
            have hkc : (k : Int) + 1 ≤ (cv : Int) := by omega
            have hwr : IntKind.i64.wrap ((k : Int) + 1) = (k : Int) + 1 := by rw [IntKind.wrap_i64]; omega
            have htn : ((k : Int) + 1).toNat = k + 1 := by omega
            have hne : ¬ cv = k := by omega
            have hk1' : (0 : Int) ≤ (k : Int) + 1 := by omega
            clear hc hck hvk hcv_ hT rs
            go_upto_region 11 with (fail)
            clear g0 g1 g2 lg
            refine wp_region_held_drew (S := (fun w' => Step W2 w' ∧ (∀ b o, b < W2.heap.size → w'.cell? ⟨b, o, none⟩ = W2.cell? ⟨b, o, none⟩))) (by kernel_rfl) (by (try dsimp only); (first | exact ⟨hS1, hS2⟩ | exact ⟨Step.of, fun b o h => (fut W2 _).cell (p := ⟨b, o, none⟩) h⟩)) (fun hHeld => ?_)
            refine wpAnyH_take (i := 0) (oi := ⟨some 47, _, _, _, _, _⟩) (v := ?_) rfl (by kernel_rfl) (by kernel_rfl) (by kernel_rfl) (fun _ _ _ h => h) (Or.inl ⟨by rfl, ?_⟩) (by assumption) ?_
            rotate_left
            · ((intro w hSw); (try dsimp only at hSw); go_simp; (try with_reducible rfl))
            (try simp only [Act.put, List.setIfInBounds_toArray, List.set_cons_zero, List.set_cons_succ])
            refine wpAnyH_take (i := 1) (oi := ⟨some 48, _, _, _, _, _⟩) (v := ?_) rfl (by kernel_rfl) (by kernel_rfl) (by kernel_rfl) (fun _ _ _ h => h) (Or.inl ⟨by rfl, ?_⟩) (by assumption) ?_
            rotate_left
            · ((intro w hSw); (try dsimp only at hSw); go_simp; (try with_reducible rfl))
            (try simp only [Act.put, List.setIfInBounds_toArray, List.set_cons_zero, List.set_cons_succ])
            refine wpAnyH_take (i := 2) (oi := ⟨some 49, _, _, _, _, _⟩) (v := ?_) rfl (by kernel_rfl) (by kernel_rfl) (by kernel_rfl) (fun _ _ _ h => h) (Or.inl ⟨by rfl, ?_⟩) (by assumption) ?_
            rotate_left
            · ((intro w hSw); (try dsimp only at hSw); go_simp; (try with_reducible rfl))
            (try simp only [Act.put, List.setIfInBounds_toArray, List.set_cons_zero, List.set_cons_succ])
            refine wpAnyH_take (i := 3) (oi := ⟨some 50, _, _, _, _, _⟩) (v := ?_) rfl (by kernel_rfl) (by kernel_rfl) (by kernel_rfl) (fun _ _ _ h => h) (Or.inl ⟨by rfl, ?_⟩) (by assumption) ?_
            rotate_left
            · ((intro w hSw); (try dsimp only at hSw); go_simp; (try with_reducible rfl))
            (try simp only [Act.put, List.setIfInBounds_toArray, List.set_cons_zero, List.set_cons_succ])
            refine wpAnyH_take (i := 4) (oi := ⟨some 51, _, _, _, _, _⟩) (v := ?_) rfl (by kernel_rfl) (by kernel_rfl) (by kernel_rfl) (fun _ _ _ h => h) (Or.inl ⟨by rfl, ?_⟩) (by assumption) ?_
            rotate_left
            · ((intro w hSw); (try dsimp only at hSw); go_simp; (try with_reducible rfl))
            (try simp only [Act.put, List.setIfInBounds_toArray, List.set_cons_zero, List.set_cons_succ])
            refine wpAnyH_take (i := 5) (oi := ⟨some 52, _, _, _, _, _⟩) (v := ?_) rfl (by kernel_rfl) (by kernel_rfl) (by kernel_rfl) (fun _ _ _ h => h) (Or.inl ⟨by rfl, ?_⟩) (by assumption) ?_
            rotate_left
            · ((intro w hSw); (try dsimp only at hSw); go_simp; (try with_reducible rfl))
            (try simp only [Act.put, List.setIfInBounds_toArray, List.set_cons_zero, List.set_cons_succ])
            refine wpAnyH_take (i := 6) (oi := ⟨some 53, _, _, _, _, _⟩) (v := ?_) rfl (by kernel_rfl) (by kernel_rfl) (by kernel_rfl) (fun _ _ _ h => h) (Or.inl ⟨by rfl, ?_⟩) (by assumption) ?_
            rotate_left
            · ((intro w hSw); (try dsimp only at hSw); go_simp; (try with_reducible rfl))
            (try simp only [Act.put, List.setIfInBounds_toArray, List.set_cons_zero, List.set_cons_succ])
            refine wpAnyH_take (i := 7) (oi := ⟨some 54, _, _, _, _, _⟩) (v := ?_) rfl (by kernel_rfl) (by kernel_rfl) (by kernel_rfl) (fun _ _ _ h => h) (Or.inl ⟨by rfl, ?_⟩) (by assumption) ?_
            rotate_left
            · ((intro w hSw); (try dsimp only at hSw); go_simp; (try with_reducible rfl))
            (try simp only [Act.put, List.setIfInBounds_toArray, List.set_cons_zero, List.set_cons_succ])
            refine wpAnyH_take (i := 8) (oi := ⟨some 55, _, _, _, _, _⟩) (v := ?_) rfl (by kernel_rfl) (by kernel_rfl) (by kernel_rfl) (fun _ _ _ h => h) (Or.inl ⟨by rfl, ?_⟩) (by assumption) ?_
            rotate_left
            · ((intro w hSw); (try dsimp only at hSw); go_simp; (try with_reducible rfl))
            (try simp only [Act.put, List.setIfInBounds_toArray, List.set_cons_zero, List.set_cons_succ])
            refine wpAnyH_take (i := 9) (oi := ⟨some 56, _, _, _, _, _⟩) (v := ?_) rfl (by kernel_rfl) (by kernel_rfl) (by kernel_rfl) (fun _ _ _ h => h) (Or.inl ⟨by rfl, ?_⟩) (by assumption) ?_
            rotate_left
            · ((intro w hSw); (try dsimp only at hSw); go_simp; (try with_reducible rfl))
            (try simp only [Act.put, List.setIfInBounds_toArray, List.set_cons_zero, List.set_cons_succ])
            refine wpAnyH_take (i := 10) (oi := ⟨some 57, _, _, _, _, _⟩) (v := ?_) rfl (by kernel_rfl) (by kernel_rfl) (by kernel_rfl) (fun _ _ _ h => h) (Or.inl ⟨by rfl, ?_⟩) (by assumption) ?_
            rotate_left
            · ((intro w hSw); (try dsimp only at hSw); go_simp; (try with_reducible rfl))
            (try simp only [Act.put, List.setIfInBounds_toArray, List.set_cons_zero, List.set_cons_succ])
            refine wpAnyH_take (i := 11) (oi := ⟨some 58, _, _, _, _, _⟩) (v := ?_) rfl (by kernel_rfl) (by kernel_rfl) (by kernel_rfl) (fun _ _ _ h => h) (Or.inl ⟨by rfl, ?_⟩) (by assumption) ?_
            rotate_left
            · ((intro w hSw); (try dsimp only at hSw); go_simp; (try with_reducible rfl))
            (try simp only [Act.put, List.setIfInBounds_toArray, List.set_cons_zero, List.set_cons_succ])
            refine wpAnyH_take (i := 12) (oi := ⟨some 59, _, _, _, _, _⟩) (v := ?_) rfl (by kernel_rfl) (by kernel_rfl) (by kernel_rfl) (fun _ _ _ h => h) (Or.inl ⟨by rfl, ?_⟩) (by assumption) ?_
            rotate_left
            · ((intro w hSw); (try dsimp only at hSw); go_simp; (try with_reducible rfl))
            (try simp only [Act.put, List.setIfInBounds_toArray, List.set_cons_zero, List.set_cons_succ])
            refine wpAnyH_ready (rs := [13]) (by kernel_rfl) (by simp) ?_
            refine AllReadyH.cons (o := ⟨some 60, _, _, _, _, _⟩) rfl (fun K hK => ?_) AllReadyH.nil
            obtain ⟨hS1, hS2⟩ := hHeld
            go_simp
            (go_at_call 35; (with_reducible refine (RS.out _).mono ?_); rintro e w3 ⟨rfl, hs3⟩)
            refine hK.out _ _ (by (try dsimp only); (first | exact ⟨hS1, hS2⟩ | exact ⟨Step.of, fun b o h => (fut W2 _).cell (p := ⟨b, o, none⟩) h⟩)) (fun hHeld => ?_)
            clear hK K
            (try simp only [Act.put, List.setIfInBounds_toArray, List.set_cons_zero, List.set_cons_succ])
            refine wpAnyH_ready (rs := [14]) (by kernel_rfl) (by simp) ?_
            refine AllReadyH.cons (o := ⟨some 61, _, _, _, _, _⟩) rfl (fun K hK => ?_) AllReadyH.nil
            go_simp
            refine hK.out _ _ (by (try dsimp only); (exact ⟨Step.of, fun b o h => (fut W2 _).cell (p := ⟨b, o, none⟩) h⟩)) (fun hHeld => ?_)
            clear hK K
            (try simp only [Act.put, List.setIfInBounds_toArray, List.set_cons_zero, List.set_cons_succ])
            refine wpAnyH_ready (rs := [15]) (by kernel_rfl) (by simp) ?_
            refine AllReadyH.cons (o := ⟨some 62, _, _, _, _, _⟩) rfl (fun K hK => ?_) AllReadyH.nil
            (have HOW := hide ((HO.out.fut (w' := w3)).alloc (.cells #[.int .i64 T.col, .int .i64 T.nulls, .int .i64 T.mn.kind, .int .i64 T.mn.i, .bool T.mn.b, .string T.mn.s, .int .i64 T.mx.kind, .int .i64 T.mx.i, .bool T.mx.b, .string T.mx.s] 71)); have HNew := hide (SlAt.one w3 10 [.int .i64 T.col, .int .i64 T.nulls, .int .i64 T.mn.kind, .int .i64 T.mn.i, .bool T.mn.b, .string T.mn.s, .int .i64 T.mx.kind, .int .i64 T.mx.i, .bool T.mx.b, .string T.mx.s] 71); have z3_ := hs3.size; refine step_append_sl rfl (.tmp 47) (.tmp 61) 69 rfl eiSta (base := W2.heap.size) (xs := ((oneS s vs).take k).map Sta.cells) rfl HOW.out (sta_fit _) (ys := [[.int .i64 T.col, .int .i64 T.nulls, .int .i64 T.mn.kind, .int .i64 T.mn.i, .bool T.mn.b, .string T.mn.s, .int .i64 T.mx.kind, .int .i64 T.mx.i, .bool T.mx.b, .string T.mx.s]]) rfl (by simp) HNew.out (sta_fit [T]) (by rw [HLT.out]; show (k + 1) * 96 ≤ _; omega) (fut W2 (w3.alloc (.cells #[.int .i64 T.col, .int .i64 T.nulls, .int .i64 T.mn.kind, .int .i64 T.mn.i, .bool T.mn.b, .string T.mn.s, .int .i64 T.mx.kind, .int .i64 T.mx.i, .bool T.mx.b, .string T.mx.s] 71))).size (N := k + 1) (by rw [HLT.out]; rfl) ?_; intro A5 c5 w5 hq1 hq2 hown5 hgr5 hbel5; have H5 := hide hown5; have hs5 : Step W2 w5 := ⟨(fut W2 (w3.alloc (.cells #[.int .i64 T.col, .int .i64 T.nulls, .int .i64 T.mn.kind, .int .i64 T.mn.i, .bool T.mn.b, .string T.mn.s, .int .i64 T.mx.kind, .int .i64 T.mx.i, .bool T.mx.b, .string T.mx.s] 71))).trans hbel5⟩; clear hown5 hgr5 hbel5)
            refine hK.out _ _ (by (try dsimp only); (exact ⟨hs5, (bcell hs5.below).1⟩)) (fun hHeld => ?_)
            clear hK K
            (try simp only [Act.put, List.setIfInBounds_toArray, List.set_cons_zero, List.set_cons_succ])
            refine wpAnyH_take (i := 16) (oi := ⟨some 10, _, _, _, _, _⟩) (v := ?_) rfl (by kernel_rfl) (by kernel_rfl) (by kernel_rfl) (fun _ _ _ h => h) (Or.inl ⟨by rfl, ?_⟩) (by assumption) ?_
            rotate_left
            · ((intro w hSw); (try dsimp only at hSw); go_simp; (try with_reducible rfl))
            (try simp only [Act.put, List.setIfInBounds_toArray, List.set_cons_zero, List.set_cons_succ])
            refine wpAnyH_done (by kernel_rfl) ?_ _
            obtain ⟨hS1, hS2⟩ := hHeld
            go_wp2_with fail
            go_roundw
            case rel =>
              refine ⟨k + 1, A5, c5, by omega, by go_num, rfl, ?_, hs5⟩
              rw [HTK.out]
              have := H5.out
              simpa [Sta.cells] using this
            case measure => simp [intOf]; omega
          · obtain rfl : k = s.cols.length := by omega
            have hl2 := oneS_len HLEN.out
            have HSL := HO.out.sl (sta_fit _).len
            rw [List.take_of_length_le (by omega)] at HSL
            have HSLH := hide HSL
            clear HSL
            obtain ⟨b0, hb0⟩ : ∃ b0, statsR [x] s (oneS s vs) 0 = (false, b0) := ⟨(statsR [x] s (oneS s vs) 0).2, by rw [← OS.out.2]⟩
            have u1 := fun w' [Fut V w'] [Fut w w'] [Fut wr w'] => pstats_any [x] (some ⟨w1.heap.size, 0, none⟩) 1 s As cs (oneS s vs) A' c' 1 w' HPI.out hs HSLH.out (by omega)
            have u2 := fun w' [Fut V w'] [Fut w w'] [Fut wr w'] => pstats_any [x] (some ⟨w1.heap.size, 0, none⟩) 1 s As cs (oneS s vs) A' c' 0 w' HPI.out hs HSLH.out (by omega)
            rw [OS.out.1, hl2, HT.out] at u1
            rw [hb0, hl2] at u2
            unfold Sch.val at u1 u2
            have U1 := hide u1; have U2 := hide u2
            clear u1 u2 hl2 hb0
            clear q0 q1 q2 lq r0 lr a0 la
            have p0 := At.z1 (HPB.out.fut (w' := wr)).at0; have lp := (HPB.out.fut (w' := wr)).lt
            go_wp2_with fail
            refine (U1.out _).mono ?_
            rintro e w5 ⟨rfl, hs5⟩
            clear g0 g1 g2 lg p0 lp U1
            obtain ⟨q0, q1, q2⟩ := At.z3 (HSB.out.fut (w' := w5)).at0; have lq := (HSB.out.fut (w' := w5)).lt
            have p0 := At.z1 (HPB.out.fut (w' := w5)).at0; have lp := (HPB.out.fut (w' := w5)).lt
            go_wp2_with fail
            refine (U2.out _).mono ?_
            rintro e w6 ⟨rfl, hs6⟩
            clear q0 q1 q2 lq p0 lp U2
            by_cases hz : b0 = 0
            · subst hz
              go_wp2_with (go_at_call 20; refine (numv_any _ _).mono ?_; rintro e w' ⟨rfl, rfl⟩)
              go_ret
              exact ⟨by simp, Step.of⟩
            · have ez : (b0 != 0) = true := by simpa using hz
              clear hz
              go_wp2_with (go_at_call 20; refine (numv_any _ _).mono ?_; rintro e w' ⟨rfl, rfl⟩)
              go_ret
              exact ⟨by simp, Step.of⟩
    · have e1 : (x.kind != 1) = true := by simp; omega
      have e2 : (x.kind != 2) = true := by simp; omega
      clear h12
      go_wp2_with fail
      go_ret
      exact ⟨rfl, Step.of⟩
  · have e1 : (te != 0) = true := by simpa using he
    clear he
    go_wp2_with fail
    go_ret
    exact ⟨rfl, Step.of⟩
end Go.Proofs.YtcgpfllkbflbhaaDoor
