/-
  Has a row a value for each column? The program's Row, the document's RowMay.
-/
import Derived.Test.YtafgfehjdbomfaaDoorV
import Derived.Test.YtafgfehjdbomfaaDoorRa
import Derived.Deep.RegionHeld3
import Derived.Deep.RegionLaw
import Derived.Deep.Cut
import Derived.Deep.CutBlock
namespace Go.Proofs.YtafgfehjdbomfaaDoor
open Go.RowKit

theorem rowB_len {s : Sch} {vs : List Val} (h : vs.length ≠ s.cols.length) : rowB s vs = false := by simp [rowB, h]
theorem rowB_of {s : Sch} {vs : List Val} (h : vs.length = s.cols.length) : rowB s vs = rowUpto s.cols vs s.cols.length := by simp [rowB, h]
theorem rowUpto_succ {cs : List Col} {vs : List Val} {k : Nat} {c : Col} {v : Val} (h : rowUpto cs vs k = true) (hc : cs[k]? = some c) (hv : vs[k]? = some v) (ho : cellOk c v = true) : rowUpto cs vs (k + 1) = true := by
  simp only [rowUpto, h, hc, hv, ho, Bool.and_self]

set_option maxHeartbeats 2000000 in
theorem prow_any {w0 w1 : World} (g : Nat) (s : Sch) (A : Option Addr) (cap : Nat) (vs : List Val) (Av : Option Addr) (cv : Nat) (w : World) (hb : Blk w0 g 27 [.int .i64 s.id, .slice A s.cols.length cap, .int .i64 s.next]) (h : SchIn w0 s A cap)
    (hv : SlAt w1 w1.heap.size 4 Av (vs.map Val.cells)) [f0 : Fut w0 w] [f1 : Fut w1 w] (hl : vs.length ≤ 4611686018427387904) :
    Calls Tryd.prog 71 #[.pointer (some ⟨g, 0, none⟩), .agg #[.slice Av vs.length cv]] w fun e w' => e = .returned (.bool (rowB s vs)) ∧ Step w w' := by
  have hat := h.at_
  have hn := h.len
  obtain ⟨id, cols, next⟩ := s
  simp only at hat hn hb
  have z0 := f0.below.size
  have z1 := f1.below.size
  have Hb := hide hb
  have lg := hb.lt
  obtain ⟨q0, q1, q2⟩ := At.z3 (hb.fut (w' := w)).at0
  have lg' : g < w.heap.size := by omega
  clear hb
  by_cases hlen : vs.length = cols.length
  · have hq : ((vs.length : Int) != (cols.length : Int)) = false := by simp; omega
    rw [rowB_of hlen]
    have HL := hide hlen; clear hlen
    simp only
    go_enter Tryd.func71, Tryd.ntmps71
    go_wp2
    go_quiet (fail)
    go_wp2
    clear q0 q1 q2
    go_loopw [5, 6, 7, 22] (fun _ _ _ i wr => ∃ k : Nat, k ≤ cols.length ∧ i = .int .i64 k ∧ rowUpto cols vs k = true ∧ Step (w.alloc (.cells #[.slice Av vs.length cv] 54)) wr) (fun _ _ _ i _ => cols.length - (intOf i).toNat)
    case atStart => exact ⟨0, Nat.zero_le _, rfl, rfl, Step.of⟩
    case round =>
      obtain ⟨k, hk, rfl, hok, hst⟩ := hrel
      have HO := hide hok; clear hok
      have hs1 := hst.size
      simp only [hsz] at hs1
      have hs2 : w.heap.size < wr.heap.size := by omega
      have HRB := hide ((Blk.new w [.slice Av vs.length cv] 54).fut (w' := wr))
      have r0 := At.z1 HRB.out.at0
      by_cases hlt : k < cols.length
      · obtain ⟨b, off, rfl, hb, hc⟩ := hat.elem (w' := wr) inferInstance (k := k) (by simpa using hlt)
        obtain ⟨c, hcc⟩ : ∃ c, cols[k]? = some c := ⟨_, List.getElem?_eq_getElem hlt⟩
        obtain ⟨h1, h2, h3⟩ := At.l3 (hc k c.cells (by simp [hcc]))
        obtain ⟨bv, ov, rfl, hbv, hcv⟩ := hv.elem (w' := wr) inferInstance (k := k) (by have := HL.out; simp; omega)
        obtain ⟨v, hvv⟩ : ∃ v, vs[k]? = some v := ⟨_, List.getElem?_eq_getElem (by have := HL.out; omega)⟩
        obtain ⟨v1, v2, v3, v4⟩ := At.l4 (hcv k v.cells (by simp [hvv]))
        have hs3 : b < wr.heap.size := by omega
        have hs4 : bv < wr.heap.size := by omega
        have HC := hide hcc; have HV := hide hvv
        have hkv : k < vs.length := by have := HL.out; omega
        clear hcc hvv hc hcv
        have HA := hide (Blk.new wr [.int .i64 c.id, .string c.name, .int .i64 c.kind] 71)
        go_wp2_with fail
        refine (plain_ag v _).mono ?_
        rintro e w2 ⟨rfl, hs⟩
        clear v1 v2 v3 v4 h1 h2 h3 r0
        have HA2 := hide (HA.out.fut (w' := w2))
        obtain ⟨a0, a1, a2⟩ := At.z3 HA2.out.at0
        have la := HA2.out.lt
        by_cases e1 : kindV v = 0
        · have hco : cellOk c v = true := by simp [cellOk, e1]
          have e1' : (kindV v != 0) = false := by simpa using e1
          have HCO := hide hco
          clear e1 hco
          go_wp2_with fail
          go_roundw
          case rel => exact ⟨k + 1, by omega, by go_num, rowUpto_succ HO.out HC.out HV.out HCO.out, Step.of⟩
          case measure => simp [intOf]; omega
        · have e1' : (kindV v != 0) = true := by simpa using e1
          by_cases e2 : kindV v = c.kind
          · have hco : cellOk c v = true := by simp [cellOk, e2]
            have e2' : (kindV v != c.kind) = false := by simpa using e2
            have HCO := hide hco
            clear e1 e2 hco
            go_wp2_with fail
            go_roundw
            case rel => exact ⟨k + 1, by omega, by go_num, rowUpto_succ HO.out HC.out HV.out HCO.out, Step.of⟩
            case measure => simp [intOf]; omega
          · have hco : cellOk c v = false := by simp [cellOk, e1, e2]
            have e2' : (kindV v != c.kind) = true := by simpa using e2
            have HCO := hide hco
            clear e1 e2 hco
            go_wp2_with fail
            go_ret
            exact ⟨ret_bool (rowUpto_bad HC.out HV.out HCO.out).symm, Step.of⟩
      · obtain rfl : k = cols.length := by omega
        go_wp2_with fail
        go_ret
        exact ⟨ret_bool HO.out.symm, Step.of⟩
  · have hq : ((vs.length : Int) != (cols.length : Int)) = true := by simp; omega
    rw [rowB_len hlen]
    clear hlen
    go_enter Tryd.func71, Tryd.ntmps71
    go_wp2
    go_quiet (fail)
    go_wp2
    go_ret
    exact ⟨rfl, Step.of⟩

set_option maxHeartbeats 2000000 in
theorem rrow_any {w0 w1 : World} (s : Sch) (A : Option Addr) (cap : Nat) (vs : List Val) (Av : Option Addr) (cv : Nat) (w : World) (h : SchIn w0 s A cap)
    (hv : SlAt w1 w1.heap.size 4 Av (vs.map Val.cells)) [f0 : Fut w0 w] [f1 : Fut w1 w] (hl : vs.length ≤ 4611686018427387904) :
    Calls Tryd.prog 60 #[s.val A cap, .agg #[.slice Av vs.length cv]] w fun e w' => e = .returned (.bool (rowB s vs)) ∧ Step w w' := by
  have hat := h.at_
  have hn := h.len
  obtain ⟨id, cols, next⟩ := s
  simp only [Sch.val] at hat hn ⊢
  have z0 := f0.below.size
  have z1 := f1.below.size
  obtain ⟨W, hW⟩ : ∃ W, W = (w.alloc (.cells #[.int .i64 id, .slice A cols.length cap, .int .i64 next] 27)).alloc (.cells #[.slice Av vs.length cv] 54) := ⟨_, rfl⟩
  have SW : Step w W := by rw [hW]; exact Step.of
  have HSB : Hid (Blk W w.heap.size 27 [.int .i64 id, .slice A cols.length cap, .int .i64 next]) := by rw [hW]; exact (Blk.new w [.int .i64 id, .slice A cols.length cap, .int .i64 next] _).alloc _
  have HRB : Hid (Blk W (w.heap.size + 1) 54 [.slice Av vs.length cv]) := by rw [hW]; exact Blk.new_at (by simp) [.slice Av vs.length cv] _
  have hz : W.heap.size = w.heap.size + 2 := by rw [hW]; simp
  have HZ := hide hz; clear hz
  by_cases hlen : vs.length = cols.length
  · have hq : ((vs.length : Int) != (cols.length : Int)) = false := by simp; omega
    rw [rowB_of hlen]
    have HL := hide hlen; clear hlen
    simp only
    have HW := hide hW; clear hW
    go_enter Tryd.func60, Tryd.ntmps60
    go_wp2
    rw [← HW.out]
    go_loopw [5] (fun i wr => ∃ k : Nat, k ≤ vs.length ∧ i = .int .i64 k ∧ rowUpto cols vs k = true ∧ Step W wr) (fun i _ => vs.length - (intOf i).toNat)
    case atStart => exact ⟨0, Nat.zero_le _, rfl, rfl, Step.of⟩
    case round =>
      obtain ⟨k, hk, rfl, hok, hst⟩ := hrel
      have HO := hide hok; clear hok
      have hs1 := hst.size
      have hs2 : w.heap.size + 1 < wr.heap.size := by have := HZ.out; omega
      have hs2' : w.heap.size < wr.heap.size := by omega
      obtain ⟨q0, q1, q2⟩ := At.z3 (HSB.out.fut (w' := wr)).at0
      have r0 := At.z1 (HRB.out.fut (w' := wr)).at0
      by_cases hlt : k < vs.length
      · have hlt2 : k < cols.length := by have := HL.out; omega
        obtain ⟨b, off, rfl, hb, hc⟩ := hat.elem (w' := wr) inferInstance (k := k) (by simpa using hlt2)
        obtain ⟨c, hcc⟩ : ∃ c, cols[k]? = some c := ⟨_, List.getElem?_eq_getElem hlt2⟩
        obtain ⟨h1, h2, h3⟩ := At.l3 (hc k c.cells (by simp [hcc]))
        obtain ⟨bv, ov, rfl, hbv, hcv⟩ := hv.elem (w' := wr) inferInstance (k := k) (by simpa using hlt)
        obtain ⟨v, hvv⟩ : ∃ v, vs[k]? = some v := ⟨_, List.getElem?_eq_getElem hlt⟩
        obtain ⟨v1, v2, v3, v4⟩ := At.l4 (hcv k v.cells (by simp [hvv]))
        have hs3 : b < wr.heap.size := by omega
        have hs4 : bv < wr.heap.size := by omega
        have HC := hide hcc; have HV := hide hvv
        clear hcc hvv hc hcv
        have hnl := vnull_any v
        unfold Val.val nullB at hnl
        by_cases e1 : kindV v = 0
        · have hco : cellOk c v = true := by simp [cellOk, e1]
          have HCO := hide hco
          have e1' : (kindV v == 0) = true := by simpa using e1
          rw [e1'] at hnl
          have HN := hide hnl
          clear e1 hco hnl e1'
          go_upto_region 6 with (fail)
          refine wp_region_held_drew (S := (fun w' => Step wr w' ∧ (∀ b o, b < wr.heap.size → w'.cell? ⟨b, o, none⟩ = wr.cell? ⟨b, o, none⟩))) (by kernel_rfl) (by (try dsimp only); (first | exact ⟨Step.of, (bcell (fut _ _)).1⟩)) (fun hHeld => ?_)
          refine wpAnyH_take (i := 0) (oi := ⟨some 20, _, _, _, _, _⟩) (v := ?va1) rfl (by kernel_rfl) (by kernel_rfl) (by kernel_rfl) (fun _ _ _ h => h) (Or.inl ⟨by rfl, ?hy1⟩) (by assumption) ?rs1
          case hy1 => ((intro w hSw); (try dsimp only at hSw); go_simp; (try with_reducible rfl))
          (try simp only [Act.put, List.setIfInBounds_toArray, List.set_cons_zero, List.set_cons_succ])
          refine wpAnyH_take (i := 1) (oi := ⟨some 21, _, _, _, _, _⟩) (v := ?va2) rfl (by kernel_rfl) (by kernel_rfl) (by kernel_rfl) (fun _ _ _ h => h) (Or.inl ⟨by rfl, ?hy2⟩) (by assumption) ?rs2
          case hy2 => ((intro w hSw); (try dsimp only at hSw); go_simp; (try with_reducible rfl))
          (try simp only [Act.put, List.setIfInBounds_toArray, List.set_cons_zero, List.set_cons_succ])
          refine wpAnyH_take (i := 2) (oi := ⟨some 22, _, _, _, _, _⟩) (v := ?va3) rfl (by kernel_rfl) (by kernel_rfl) (by kernel_rfl) (fun _ _ _ h => h) (Or.inl ⟨by rfl, ?hy3⟩) (by assumption) ?rs3
          case hy3 => ((intro w hSw); (try dsimp only at hSw); go_simp; (try with_reducible rfl))
          (try simp only [Act.put, List.setIfInBounds_toArray, List.set_cons_zero, List.set_cons_succ])
          refine wpAnyH_take (i := 3) (oi := ⟨some 23, _, _, _, _, _⟩) (v := ?va4) rfl (by kernel_rfl) (by kernel_rfl) (by kernel_rfl) (fun _ _ _ h => h) (Or.inl ⟨by rfl, ?hy4⟩) (by assumption) ?rs4
          case hy4 => ((intro w hSw); (try dsimp only at hSw); go_simp; (try with_reducible rfl))
          (try simp only [Act.put, List.setIfInBounds_toArray, List.set_cons_zero, List.set_cons_succ])
          refine wpAnyH_take (i := 4) (oi := ⟨some 24, _, _, _, _, _⟩) (v := ?va5) rfl (by kernel_rfl) (by kernel_rfl) (by kernel_rfl) (fun _ _ _ h => h) (Or.inl ⟨by rfl, ?hy5⟩) (by assumption) ?rs5
          case hy5 => ((intro w hSw); (try dsimp only at hSw); go_simp; (try with_reducible rfl))
          (try simp only [Act.put, List.setIfInBounds_toArray, List.set_cons_zero, List.set_cons_succ])
          refine wpAnyH_ready (rs := [5]) (by kernel_rfl) (by simp) ?_
          refine AllReadyH.cons (o := ⟨some 25, _, _, _, _, _⟩) rfl (fun K hK => ?_) AllReadyH.nil
          go_simp
          (go_at_call 48; (with_reducible refine (HN.out _).mono ?_); rintro e w' ⟨rfl, hq⟩)
          refine hK.out _ _ (by (try dsimp only); (first | exact ⟨Step.of, (bcell (fut _ _)).1⟩)) (fun hHeld => ?_)
          clear hK K
          (try simp only [Act.put, List.setIfInBounds_toArray, List.set_cons_zero, List.set_cons_succ])
          refine wpAnyH_take (i := 6) (oi := ⟨some 26, _, _, _, _, _⟩) (v := ?va7) rfl (by kernel_rfl) (by kernel_rfl) (by kernel_rfl) (fun _ _ _ h => h) (Or.inl ⟨by rfl, ?hy7⟩) (by assumption) ?rs7
          case hy7 => ((intro w hSw); (try dsimp only at hSw); go_simp; (try with_reducible rfl))
          (try simp only [Act.put, List.setIfInBounds_toArray, List.set_cons_zero, List.set_cons_succ])
          refine wpAnyH_take (i := 7) (oi := ⟨some 27, _, _, _, _, _⟩) (v := ?va8) rfl (by kernel_rfl) (by kernel_rfl) (by kernel_rfl) (fun _ _ _ h => h) (Or.inl ⟨by rfl, ?hy8⟩) (by assumption) ?rs8
          case hy8 => ((intro w hSw); (try dsimp only at hSw); go_simp; (try with_reducible rfl))
          (try simp only [Act.put, List.setIfInBounds_toArray, List.set_cons_zero, List.set_cons_succ])
          refine wpAnyH_take (i := 8) (oi := ⟨some 28, _, _, _, _, _⟩) (v := undef) rfl (by kernel_rfl) (by kernel_rfl) (by kernel_rfl) (fun _ _ _ h => h) (Or.inr ⟨by rfl, rfl⟩) (by assumption) ?_
          (try simp only [Act.put, List.setIfInBounds_toArray, List.set_cons_zero, List.set_cons_succ])
          refine wpAnyH_take (i := 9) (oi := ⟨some 29, _, _, _, _, _⟩) (v := undef) rfl (by kernel_rfl) (by kernel_rfl) (by kernel_rfl) (fun _ _ _ h => h) (Or.inr ⟨by rfl, rfl⟩) (by assumption) ?_
          (try simp only [Act.put, List.setIfInBounds_toArray, List.set_cons_zero, List.set_cons_succ])
          refine wpAnyH_take (i := 10) (oi := ⟨some 30, _, _, _, _, _⟩) (v := undef) rfl (by kernel_rfl) (by kernel_rfl) (by kernel_rfl) (fun _ _ _ h => h) (Or.inr ⟨by rfl, rfl⟩) (by assumption) ?_
          (try simp only [Act.put, List.setIfInBounds_toArray, List.set_cons_zero, List.set_cons_succ])
          refine wpAnyH_take (i := 11) (oi := ⟨some 31, _, _, _, _, _⟩) (v := undef) rfl (by kernel_rfl) (by kernel_rfl) (by kernel_rfl) (fun _ _ _ h => h) (Or.inr ⟨by rfl, rfl⟩) (by assumption) ?_
          (try simp only [Act.put, List.setIfInBounds_toArray, List.set_cons_zero, List.set_cons_succ])
          refine wpAnyH_take (i := 12) (oi := ⟨some 32, _, _, _, _, _⟩) (v := undef) rfl (by kernel_rfl) (by kernel_rfl) (by kernel_rfl) (fun _ _ _ h => h) (Or.inr ⟨by rfl, rfl⟩) (by assumption) ?_
          (try simp only [Act.put, List.setIfInBounds_toArray, List.set_cons_zero, List.set_cons_succ])
          refine wpAnyH_take (i := 13) (oi := ⟨some 33, _, _, _, _, _⟩) (v := undef) rfl (by kernel_rfl) (by kernel_rfl) (by kernel_rfl) (fun _ _ _ h => h) (Or.inr ⟨by rfl, rfl⟩) (by assumption) ?_
          (try simp only [Act.put, List.setIfInBounds_toArray, List.set_cons_zero, List.set_cons_succ])
          refine wpAnyH_take (i := 14) (oi := ⟨some 34, _, _, _, _, _⟩) (v := undef) rfl (by kernel_rfl) (by kernel_rfl) (by kernel_rfl) (fun _ _ _ h => h) (Or.inr ⟨by rfl, rfl⟩) (by assumption) ?_
          (try simp only [Act.put, List.setIfInBounds_toArray, List.set_cons_zero, List.set_cons_succ])
          refine wpAnyH_take (i := 15) (oi := ⟨some 35, _, _, _, _, _⟩) (v := undef) rfl (by kernel_rfl) (by kernel_rfl) (by kernel_rfl) (fun _ _ _ h => h) (Or.inr ⟨by rfl, rfl⟩) (by assumption) ?_
          (try simp only [Act.put, List.setIfInBounds_toArray, List.set_cons_zero, List.set_cons_succ])
          refine wpAnyH_take (i := 16) (oi := ⟨some 36, _, _, _, _, _⟩) (v := undef) rfl (by kernel_rfl) (by kernel_rfl) (by kernel_rfl) (fun _ _ _ h => h) (Or.inr ⟨by rfl, rfl⟩) (by assumption) ?_
          (try simp only [Act.put, List.setIfInBounds_toArray, List.set_cons_zero, List.set_cons_succ])
          refine wpAnyH_take (i := 17) (oi := ⟨some 37, _, _, _, _, _⟩) (v := undef) rfl (by kernel_rfl) (by kernel_rfl) (by kernel_rfl) (fun _ _ _ h => h) (Or.inr ⟨by rfl, rfl⟩) (by assumption) ?_
          (try simp only [Act.put, List.setIfInBounds_toArray, List.set_cons_zero, List.set_cons_succ])
          refine wpAnyH_take (i := 18) (oi := ⟨some 38, _, _, _, _, _⟩) (v := undef) rfl (by kernel_rfl) (by kernel_rfl) (by kernel_rfl) (fun _ _ _ h => h) (Or.inr ⟨by rfl, rfl⟩) (by assumption) ?_
          (try simp only [Act.put, List.setIfInBounds_toArray, List.set_cons_zero, List.set_cons_succ])
          refine wpAnyH_take (i := 19) (oi := ⟨some 39, _, _, _, _, _⟩) (v := undef) rfl (by kernel_rfl) (by kernel_rfl) (by kernel_rfl) (fun _ _ _ h => h) (Or.inr ⟨by rfl, rfl⟩) (by assumption) ?_
          (try simp only [Act.put, List.setIfInBounds_toArray, List.set_cons_zero, List.set_cons_succ])
          refine wpAnyH_take (i := 20) (oi := ⟨some 40, _, _, _, _, _⟩) (v := undef) rfl (by kernel_rfl) (by kernel_rfl) (by kernel_rfl) (fun _ _ _ h => h) (Or.inr ⟨by rfl, rfl⟩) (by assumption) ?_
          (try simp only [Act.put, List.setIfInBounds_toArray, List.set_cons_zero, List.set_cons_succ])
          refine wpAnyH_take (i := 21) (oi := ⟨some 41, _, _, _, _, _⟩) (v := ?va22) rfl (by kernel_rfl) (by kernel_rfl) (by kernel_rfl) (fun _ _ _ h => h) (Or.inl ⟨by rfl, ?hy22⟩) (by assumption) ?rs22
          case hy22 => ((intro w hSw); (try dsimp only at hSw); go_simp; (try with_reducible rfl))
          (try simp only [Act.put, List.setIfInBounds_toArray, List.set_cons_zero, List.set_cons_succ])
          refine wpAnyH_done (by kernel_rfl) ?_ _
          all_goals
            go_wp2_with fail
            go_roundw
            case rel => exact ⟨k + 1, by omega, by go_num, rowUpto_succ HO.out HC.out HV.out HCO.out, by go_split_ands; exact Step.of⟩
            case measure => simp [intOf]; omega
        · have e1' : (kindV v == 0) = false := by simpa using e1
          rw [e1'] at hnl
          have HN := hide hnl
          have hkk : kindV v = v.kind := by unfold kindV at e1 ⊢; split at e1 <;> simp_all
          by_cases e2 : kindV v = c.kind
          · have hco : cellOk c v = true := by simp [cellOk, e2]
            have e2' : (v.kind != c.kind) = false := by rw [← hkk]; simpa using e2
            have HCO := hide hco
            clear e1 e2 hco hkk hnl e1'
            go_upto_region 6 with (fail)
            go_region_held3 (fun w' => Step wr w' ∧ (∀ b o, b < wr.heap.size → w'.cell? ⟨b, o, none⟩ = wr.cell? ⟨b, o, none⟩))
              (first | exact ⟨Step.of, (bcell (fut _ _)).1⟩)
              (first | (go_at_call 48; go_split_ands; (with_reducible refine (HN.out _).mono ?_); rintro e w' ⟨rfl, hq⟩))
            all_goals
              go_wp2_with fail
              go_roundw
              case rel => exact ⟨k + 1, by omega, by go_num, rowUpto_succ HO.out HC.out HV.out HCO.out, by go_split_ands; exact Step.of⟩
              case measure => simp [intOf]; omega
          · have hco : cellOk c v = false := by simp [cellOk, e1, e2]
            have e2' : (v.kind != c.kind) = true := by rw [← hkk]; simpa using e2
            have HCO := hide hco
            clear e1 e2 hco hkk hnl e1'
            go_upto_region 6 with (fail)
            go_region_held3 (fun w' => Step wr w' ∧ (∀ b o, b < wr.heap.size → w'.cell? ⟨b, o, none⟩ = wr.cell? ⟨b, o, none⟩))
              (first | exact ⟨Step.of, (bcell (fut _ _)).1⟩)
              (first | (go_at_call 48; go_split_ands; (with_reducible refine (HN.out _).mono ?_); rintro e w' ⟨rfl, hq⟩))
            all_goals
              go_wp2_with fail
              go_ret
              exact ⟨ret_bool (rowUpto_bad HC.out HV.out HCO.out).symm, by go_split_ands; exact Step.of⟩
      · obtain rfl : k = vs.length := by omega
        go_wp2_with fail
        go_ret
        exact ⟨ret_bool (by rw [← HL.out]; exact HO.out.symm), Step.of⟩
  · have hq : ((vs.length : Int) != (cols.length : Int)) = true := by simp; omega
    rw [rowB_len hlen]
    clear hlen
    go_enter Tryd.func60, Tryd.ntmps60
    go_wp2
    go_ret
    exact ⟨rfl, by rw [hW] at SW; exact Step.of⟩
end Go.Proofs.YtafgfehjdbomfaaDoor
