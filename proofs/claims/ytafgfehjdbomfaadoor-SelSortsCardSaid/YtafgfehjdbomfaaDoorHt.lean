/-
  The document's Sort: rows in order.
-/
import Derived.Test.YtafgfehjdbomfaaDoorHs
import Derived.Test.YtafgfehjdbomfaaDoorHc
import Derived.Test.YtafgfehjdbomfaaDoorHm
import Derived.Test.YtafgfehjdbomfaaDoorGf
namespace Go.Proofs.YtafgfehjdbomfaaDoor
open Go.RowKit

theorem SlAt.suf {w : World} {B size b off : Nat} {l l' : List (List Value)} (h : SlAt w B size (some ⟨b, off, none⟩) (l ++ l')) : SlAt w B size (some ⟨b, off + l.length * size, none⟩) l' := by
  intro hl
  obtain ⟨b', off', e, hlt, hc⟩ := h (by simp; omega)
  cases e
  refine ⟨b, off + l.length * size, rfl, hlt, fun i cs hi => ?_⟩
  have q := hc (l.length + i) cs (by rw [List.getElem?_append_right (by omega)]; simpa using hi)
  rw [Nat.add_mul, ← Nat.add_assoc] at q
  exact q
theorem RowsIn.take {w : World} {rs : List RowA} {A : Option Addr} {cap : Nat} (h : RowsIn w rs A cap) (n : Nat) : RowsIn w (rs.take n) A cap := by
  have hl : (rs.take n).length ≤ rs.length := by rw [List.length_take]; omega
  refine ⟨Nat.le_trans hl h.hcap, Nat.le_trans hl h.hcapm, h.hcap2, ?_, fun r hr => h.rows r (List.mem_of_mem_take hr)⟩
  have q := h.at_
  rw [← List.take_append_drop n rs, List.map_append] at q
  exact q.pre
theorem RowsIn.drop {w : World} {rs : List RowA} {b off : Nat} {cap : Nat} (h : RowsIn w rs (some ⟨b, off, none⟩) cap) (n : Nat) (hn : n ≤ rs.length) : RowsIn w (rs.drop n) (some ⟨b, off + n, none⟩) (cap - n) := by
  have hl : (rs.drop n).length = rs.length - n := List.length_drop
  have h1 := h.hcap; have h2 := h.hcapm; have h3 := h.hcap2
  refine ⟨by omega, by omega, by omega, ?_, fun r hr => h.rows r (List.mem_of_mem_drop hr)⟩
  have q := h.at_
  rw [← List.take_append_drop n rs, List.map_append] at q
  have q2 := q.suf
  rw [List.length_map, List.length_take, Nat.min_eq_left hn, Nat.mul_one] at q2
  exact q2
theorem cmp_le {a b : List Val} : cmpL a b ≤ 0 ↔ lessL b a = false := by
  unfold cmpL
  cases h : lessL a b with
  | true => simp [lessL_asym a b h]
  | false => cases h2 : lessL b a <;> simp
theorem cmp_gt {a b : List Val} (h : ¬ cmpL a b ≤ 0) : lessL a b = false := by
  cases h1 : lessL a b with
  | false => rfl
  | true => exact absurd (cmp_le.2 (lessL_asym a b h1)) h
def SortPost (rs : List RowA) (w : World) (e : Ending) (w' : World) : Prop := ∃ (A' : Option Addr) (c' : Nat) (os : List RowA), e = .returned (.slice A' rs.length c') ∧ os.length = rs.length ∧ Asc lessL (os.map RowA.vs) ∧ (os.map RowA.vs).Perm (rs.map fun r => cleanL r.vs) ∧ OwnR w' w.heap.size A' rs.length c' os ∧ Step w w'
set_option maxRecDepth 100000 in
set_option maxHeartbeats 8000000 in
theorem rsort_few {w0 : World} (rs : List RowA) (Ar : Option Addr) (cr : Nat) (w : World) (h2 : rs.length < 2) (hr : RowsIn w0 rs Ar cr) [f0 : Fut w0 w] : Calls Tryd.prog 25 #[.slice Ar rs.length cr] w (SortPost rs w) := by
  have z0 := f0.below.size
  have hrm := hr.hcapm
  have h2' : (rs.length : Int) < 2 := by omega
  go_enter Tryd.func25, Tryd.ntmps25
  go_wp2_with fail
  go_loopw [3, 4] (fun out i wr => ∃ (j : Nat) (A' : Option Addr) (c' : Nat) (os : List RowA), j ≤ rs.length ∧ i = .int .i64 j ∧ out = .slice A' j c' ∧ Hid (os.map RowA.vs = (rs.take j).map fun r => cleanL r.vs) ∧ Hid (os.length = j) ∧ OwnR wr w.heap.size A' j c' os ∧ Step w wr) (fun _ i _ => rs.length - (intOf i).toNat)
  case atStart => exact ⟨0, none, 0, [], Nat.zero_le _, rfl, rfl, rfl, rfl, ⟨Own.nil_ _ _ _ _, fun r h => by simp at h⟩, Step.of⟩
  case round =>
    obtain ⟨j, A', c', os, hj, rfl, rfl, HOS, HOL, hown, hst⟩ := hrel
    have HO := hide hown; clear hown
    obtain ⟨wo, rfl⟩ : ∃ x : World, x = wr := ⟨_, rfl⟩
    have hzo := hst.size
    by_cases hlt : j < rs.length
    · obtain ⟨b2, off2, rfl, hb2, r, hrk, hri, hcell⟩ := hr.row (w' := wo) inferInstance hlt
      have hlb2 : b2 < wo.heap.size := by omega
      have HTK : Hid (((rs.take (j + 1)).map fun r => cleanL r.vs) = ((rs.take j).map fun r => cleanL r.vs) ++ [r.vs.map clean]) := by show _ = _; rw [List.take_add_one, hrk]; simp [cleanL]
      have PC := hide (fun w' [Fut w0 w'] => rcleanR_any r w' hri)
      have hjl : (j : Int) < (rs.length : Int) := by omega
      have hj0 : (0 : Int) ≤ (j : Int) := by omega
      clear hrk
      go_wp2_with (first
        | (go_at_call 40; (with_reducible refine (PC.out _).mono ?_); rintro e w5 ⟨A5, c5, rfl, ho5, hs5⟩; have HN5 := hide (ho5.more (base' := w.heap.size) hzo); clear ho5)
        | (at_builtin; have HOW := hide ((HO.out.out.fut (w' := w5)).alloc (.cells #[.slice A5 r.vs.length c5] 54)); have HNew := hide (SlAt.one w5 1 [.slice A5 r.vs.length c5] 54); go_loud (refine wpList_append_sl rfl (.tmp 19) (.tmp 25) 28 rfl eiRow (base := w.heap.size) (xs := os.map RowA.cells) rfl HOW.out (rows_fit _) (ys := [[.slice A5 r.vs.length c5]]) rfl (by simp) HNew.out (slice_fit A5 r.vs.length c5) (by rw [List.length_map, HOL.out]; show (j + 1) * 24 ≤ _; omega) (fut w (w5.alloc (.cells #[.slice A5 r.vs.length c5] 54))).size (N := j + 1) (by rw [List.length_map, HOL.out]; rfl) ?_; intro A7 c7 w7 hq1 hq2 hown7 hgr7 hbel7; have HR7 := hide (OwnR.app (r := ⟨A5, c5, r.vs.map clean⟩) (OwnR.fut (w' := w5.alloc (.cells #[.slice A5 r.vs.length c5] 54)) HO.out) (by have q := HN5.out.alloc (.cells #[.slice A5 r.vs.length c5] 54); show Own _ _ _ _ (.slice A5 (r.vs.map clean).length c5) _; rw [List.length_map]; exact q) (by show Own _ _ _ _ _ (_ ++ [[.slice A5 (r.vs.map clean).length c5]]); rw [List.length_map]; exact hown7) hgr7); have HB7 := hide hbel7; clear hown7 hgr7 hbel7)))
      go_roundw
      case rel => exact ⟨j + 1, A7, c7, os ++ [⟨A5, c5, r.vs.map clean⟩], by omega, by go_num, rfl, by show _ = _; rw [HTK.out, List.map_append, HOS.out]; rfl, by show _ = _; rw [List.length_append, HOL.out]; rfl, HR7.out, ⟨(fut w (w5.alloc (.cells #[.slice A5 r.vs.length c5] 54))).trans HB7.out⟩⟩
      case measure => simp [intOf]; omega
    · obtain rfl : j = rs.length := by omega
      have hos : os.map RowA.vs = rs.map fun r => cleanL r.vs := by have h_ := HOS.out; rw [List.take_length] at h_; exact h_
      have HM := hide hos
      clear hos
      go_wp2_with fail
      go_ret
      refine ⟨A', c', os, rfl, HOL.out, ?_, by rw [HM.out], HO.out, Step.of⟩
      rw [HM.out]
      unfold Asc
      match rs, h2 with
      | [], _ => exact List.Pairwise.nil
      | [x], _ => exact List.pairwise_singleton _ _
set_option maxRecDepth 100000 in
set_option maxHeartbeats 16000000 in
theorem rsort_any : ∀ (n : Nat) {w0 : World} (rs : List RowA) (Ar : Option Addr) (cr : Nat) (w : World), rs.length = n → RowsIn w0 rs Ar cr → ∀ [f0 : Fut w0 w], Calls Tryd.prog 25 #[.slice Ar rs.length cr] w (SortPost rs w) := by
  intro n
  induction n using Nat.strongRecOn with
  | _ n IH =>
    intro w0 rs Ar cr w hn hr f0
    by_cases h2 : rs.length < 2
    · exact rsort_few rs Ar cr w h2 hr
    · have z0 := f0.below.size
      have hrm := hr.hcapm; have hrc := hr.hcap; have hrc2 := hr.hcap2
      obtain ⟨b, off, rfl, hb, _⟩ := hr.at_.elem (w' := w) inferInstance (k := 0) (by rw [List.length_map]; omega)
      obtain ⟨h, eh⟩ : ∃ h : Nat, (rs.length : Int) / 2 = (h : Int) := ⟨rs.length / 2, by omega⟩
      have hth : (rs.take h).length = h := by rw [List.length_take]; omega
      have hdh : (rs.drop h).length = rs.length - h := List.length_drop
      have PA := fun w' [Fut w0 w'] => IH h (by omega) (rs.take h) (some ⟨b, off, none⟩) cr w' hth (hr.take h)
      have PB := fun w' [Fut w0 w'] => IH (rs.length - h) (by omega) (rs.drop h) (some ⟨b, off + h, none⟩) (cr - h) w' hdh (hr.drop h (by omega))
      unfold SortPost at PA PB
      rw [hth] at PA
      rw [hdh] at PB
      have PA := hide PA; have PB := hide PB
      have hd2 : ¬ (rs.length : Int) < 2 := by omega
      have hh1 : (h : Int) ≤ (cr : Int) := by omega
      have hh2 : (h : Int) ≤ (rs.length : Int) := by omega
      have hh0 : (0 : Int) ≤ (h : Int) := by omega
      have hne : (cr = h) = False := eq_false (by omega)
      have hwr : IntKind.i64.wrap (h : Int) = (h : Int) := by rw [IntKind.wrap_i64]; omega
      have hrcI : (rs.length : Int) ≤ (cr : Int) := by omega
      obtain ⟨wo, rfl⟩ : ∃ x : World, x = w := ⟨_, rfl⟩
      clear IH hn
      go_enter Tryd.func25, Tryd.ntmps25
      go_upto_region 8 with (fail)
      refine wp_region_held_drew (S := (fun w' => Step wo w' ∧ (∀ b o, b < wo.heap.size → w'.cell? ⟨b, o, none⟩ = wo.cell? ⟨b, o, none⟩))) (by kernel_rfl) (by (try dsimp only); (first | exact ⟨hS1, hS2⟩ | exact ⟨Step.of, (bcell (fut _ _)).1⟩)) (fun hHeld => ?_)
      refine wpAnyH_take (i := 0) (oi := ⟨some 28, _, _, _, _, _⟩) (v := ?_) rfl (by kernel_rfl) (by kernel_rfl) (by kernel_rfl) (fun _ _ _ h => h) (Or.inl ⟨by rfl, ?_⟩) (by assumption) ?_
      rotate_left
      · ((intro w hSw); (try dsimp only at hSw); go_simp; (try with_reducible rfl))
      (try simp only [Act.put, List.setIfInBounds_toArray, List.set_cons_zero, List.set_cons_succ])
      refine wpAnyH_take (i := 1) (oi := ⟨some 29, _, _, _, _, _⟩) (v := ?_) rfl (by kernel_rfl) (by kernel_rfl) (by kernel_rfl) (fun _ _ _ h => h) (Or.inl ⟨by rfl, ?_⟩) (by assumption) ?_
      rotate_left
      · ((intro w hSw); (try dsimp only at hSw); go_simp; (try with_reducible rfl))
      (try simp only [Act.put, List.setIfInBounds_toArray, List.set_cons_zero, List.set_cons_succ])
      refine wpAnyH_take (i := 6) (oi := ⟨some 34, _, _, _, _, _⟩) (v := ?_) rfl (by kernel_rfl) (by kernel_rfl) (by kernel_rfl) (fun _ _ _ h => h) (Or.inl ⟨by rfl, ?_⟩) (by assumption) ?_
      rotate_left
      · ((intro w hSw); (try dsimp only at hSw); go_simp; (try with_reducible rfl))
      (try simp only [Act.put, List.setIfInBounds_toArray, List.set_cons_zero, List.set_cons_succ])
      refine wpAnyH_take (i := 7) (oi := ⟨some 35, _, _, _, _, _⟩) (v := ?_) rfl (by kernel_rfl) (by kernel_rfl) (by kernel_rfl) (fun _ _ _ h => h) (Or.inl ⟨by rfl, ?_⟩) (by assumption) ?_
      rotate_left
      · ((intro w hSw); (try dsimp only at hSw); go_simp; (try with_reducible rfl))
      (try simp only [Act.put, List.setIfInBounds_toArray, List.set_cons_zero, List.set_cons_succ])
      refine wpAnyH_take (i := 2) (oi := ⟨some 30, _, _, _, _, _⟩) (v := ?_) rfl (by kernel_rfl) (by kernel_rfl) (by kernel_rfl) (fun _ _ _ h => h) (Or.inl ⟨by rfl, ?_⟩) (by assumption) ?_
      rotate_left
      · ((intro w hSw); (try dsimp only at hSw); go_simp; (try with_reducible rfl))
      (try simp only [Act.put, List.setIfInBounds_toArray, List.set_cons_zero, List.set_cons_succ])
      refine wpAnyH_take (i := 8) (oi := ⟨some 36, _, _, _, _, _⟩) (v := ?_) rfl (by kernel_rfl) (by kernel_rfl) (by kernel_rfl) (fun _ _ _ h => h) (Or.inl ⟨by rfl, ?_⟩) (by assumption) ?_
      rotate_left
      · ((intro w hSw); (try dsimp only at hSw); go_simp; (try with_reducible rfl))
      (try simp only [Act.put, List.setIfInBounds_toArray, List.set_cons_zero, List.set_cons_succ])
      refine wpAnyH_take (i := 3) (oi := ⟨some 31, _, _, _, _, _⟩) (v := ?_) rfl (by kernel_rfl) (by kernel_rfl) (by kernel_rfl) (fun _ _ _ h => h) (Or.inl ⟨by rfl, ?_⟩) (by assumption) ?_
      rotate_left
      · ((intro w hSw); (try dsimp only at hSw); go_simp; (try with_reducible rfl))
      (try simp only [Act.put, List.setIfInBounds_toArray, List.set_cons_zero, List.set_cons_succ])
      refine wpAnyH_take (i := 9) (oi := ⟨some 37, _, _, _, _, _⟩) (v := ?_) rfl (by kernel_rfl) (by kernel_rfl) (by kernel_rfl) (fun _ _ _ h => h) (Or.inl ⟨by rfl, ?_⟩) (by assumption) ?_
      rotate_left
      · ((intro w hSw); (try dsimp only at hSw); go_simp; (try with_reducible rfl))
      (try simp only [Act.put, List.setIfInBounds_toArray, List.set_cons_zero, List.set_cons_succ])
      refine wpAnyH_take (i := 4) (oi := ⟨some 32, _, _, _, _, _⟩) (v := ?_) rfl (by kernel_rfl) (by kernel_rfl) (by kernel_rfl) (fun _ _ _ h => h) (Or.inl ⟨by rfl, ?_⟩) (by assumption) ?_
      rotate_left
      · ((intro w hSw); (try dsimp only at hSw); go_simp; (try with_reducible rfl))
      (try simp only [Act.put, List.setIfInBounds_toArray, List.set_cons_zero, List.set_cons_succ])
      refine wpAnyH_take (i := 10) (oi := ⟨some 38, _, _, _, _, _⟩) (v := ?_) rfl (by kernel_rfl) (by kernel_rfl) (by kernel_rfl) (fun _ _ _ h => h) (Or.inl ⟨by rfl, ?_⟩) (by assumption) ?_
      rotate_left
      · ((intro w hSw); (try dsimp only at hSw); go_simp; (try with_reducible rfl))
      (try simp only [Act.put, List.setIfInBounds_toArray, List.set_cons_zero, List.set_cons_succ])
      refine wpAnyH_ready (rs := [5]) (by kernel_rfl) (by simp) ?_
      refine AllReadyH.cons (o := ⟨some 33, _, _, _, _, _⟩) rfl (fun K hK => ?_) AllReadyH.nil
      obtain ⟨hS1, hS2⟩ := hHeld
      go_simp
      (go_at_call 25; (with_reducible refine (PA.out _).mono ?_); rintro e w5 ⟨A5, c5, xa, rfl, hla, haa, hpa, hoa, hs5⟩; have HLA := hide hla; have HAA := hide haa; have HPA := hide hpa; have HOA := hide hoa; clear hla haa hpa hoa)
      refine hK.out _ _ (by (try dsimp only); (first | exact ⟨hS1, hS2⟩ | exact ⟨Step.of, (bcell (fut _ _)).1⟩)) (fun hHeld => ?_)
      clear hK K
      (try simp only [Act.put, List.setIfInBounds_toArray, List.set_cons_zero, List.set_cons_succ])
      refine wpAnyH_ready (rs := [11]) (by kernel_rfl) (by simp) ?_
      refine AllReadyH.cons (o := ⟨some 39, _, _, _, _, _⟩) rfl (fun K hK => ?_) AllReadyH.nil
      obtain ⟨hS1, hS2⟩ := hHeld
      go_simp
      (go_at_call 25; (with_reducible refine (PB.out _).mono ?_); rintro e w6 ⟨A6, c6, xb, rfl, hlb, hab, hpb, hob, hs6⟩; have HLB := hide hlb; have HBB := hide hab; have HPB := hide hpb; have HOB := hide hob; clear hlb hab hpb hob)
      refine hK.out _ _ (by (try dsimp only); (first | exact ⟨hS1, hS2⟩ | exact ⟨Step.of, (bcell (fut _ _)).1⟩)) (fun hHeld => ?_)
      clear hK K
      (try simp only [Act.put, List.setIfInBounds_toArray, List.set_cons_zero, List.set_cons_succ])
      refine wpAnyH_take (i := 12) (oi := ⟨some 5, _, _, _, _, _⟩) (v := ?_) rfl (by kernel_rfl) (by kernel_rfl) (by kernel_rfl) (fun _ _ _ h => h) (Or.inl ⟨by rfl, ?_⟩) (by assumption) ?_
      rotate_left
      · ((intro w hSw); (try dsimp only at hSw); go_simp; (try with_reducible rfl))
      (try simp only [Act.put, List.setIfInBounds_toArray, List.set_cons_zero, List.set_cons_succ])
      refine wpAnyH_take (i := 13) (oi := ⟨some 6, _, _, _, _, _⟩) (v := ?_) rfl (by kernel_rfl) (by kernel_rfl) (by kernel_rfl) (fun _ _ _ h => h) (Or.inl ⟨by rfl, ?_⟩) (by assumption) ?_
      rotate_left
      · ((intro w hSw); (try dsimp only at hSw); go_simp; (try with_reducible rfl))
      (try simp only [Act.put, List.setIfInBounds_toArray, List.set_cons_zero, List.set_cons_succ])
      refine wpAnyH_done (by kernel_rfl) ?_ _
      clear hHeld
      obtain ⟨lb, hlb⟩ : ∃ lb, rs.length - h = lb := ⟨_, rfl⟩
      rw [hlb] at HLB HOB
      rw [hlb]
      have hlen : rs.length = h + lb := by omega
      have HSZ : Hid (∀ vs ∈ rs.map fun r => cleanL r.vs, vs.length ≤ 3518437208780 ∧ ∀ v ∈ vs, v.s.size ≤ 9223372036854775807) := by
        intro vs hv
        obtain ⟨r', hr', rfl⟩ := List.mem_map.1 hv
        have q := hr.rows r' hr'
        refine ⟨by simp only [cleanL, List.length_map]; exact q.hcapm, fun v hv => ?_⟩
        obtain ⟨u, hu, rfl⟩ := List.mem_map.1 hv
        exact clean_fine (q.strs u hu)
      have HSP : Hid ((rs.map fun r => cleanL r.vs) = ((rs.take h).map fun r => cleanL r.vs) ++ ((rs.drop h).map fun r => cleanL r.vs)) := by show _ = _; rw [← List.map_append, List.take_append_drop]
      have HRA : Hid (RowsIn w5 xa A5 c5) := by
        have q := HOA.out
        rw [← HLA.out] at q
        exact q.rin (by rw [HLA.out]; omega) (fun vs hv => HSZ.out vs (by rw [HSP.out]; exact List.mem_append.2 (.inl (HPA.out.mem_iff.1 hv))))
      have HRB : Hid (RowsIn w6 xb A6 c6) := by
        have q := HOB.out
        rw [← HLB.out] at q
        exact q.rin (by rw [HLB.out]; omega) (fun vs hv => HSZ.out vs (by rw [HSP.out]; exact List.mem_append.2 (.inr (HPB.out.mem_iff.1 hv))))
      have HAX : Hid (Asc ltA xa) := by have q := HAA.out; unfold Asc at *; rw [List.pairwise_map] at q; exact q
      have HBX : Hid (Asc ltA xb) := by have q := HBB.out; unfold Asc at *; rw [List.pairwise_map] at q; exact q
      have hz6 := (fut wo w6).size
      have HLEN := hide hlen
      have hhb : h + lb ≤ 5864062014800 := by omega
      clear hlb hlen
      go_wp2_with fail
      go_loopw [7, 8, 9] (fun out iv kv wr => ∃ (i k : Nat) (os : List RowA) (Ao : Option Addr) (co : Nat), i ≤ h ∧ k ≤ lb ∧ iv = .int .i64 i ∧ kv = .int .i64 k ∧ out = .slice Ao (i + k) co ∧ Mrg ltA xa xb os i k ∧ Hid (os.length = i + k) ∧ Own wr w6.heap.size 54 1 (.slice Ao (i + k) co) (os.map RowA.cells) ∧ Step w6 wr) (fun out _ _ _ => h + lb - lenV out)
      case atStart => exact ⟨0, 0, [], none, 0, Nat.zero_le _, Nat.zero_le _, rfl, rfl, rfl, mrg_nil _ _, rfl, Own.nil_ _ _ _ _, Step.of⟩
      case round =>
        obtain ⟨i, k, os, Ao, co, hi, hk, rfl, rfl, rfl, hmg, HOL, hout, hst⟩ := hrel
        have HMG := hide hmg; have HQ := hide hout
        clear hmg hout
        obtain ⟨wi, rfl⟩ : ∃ x : World, x = wr := ⟨_, rfl⟩
        have hzi := hst.size
        have hi0 : (0 : Int) ≤ (i : Int) := by omega
        have hk0 : (0 : Int) ≤ (k : Int) := by omega
        by_cases hi1 : i < h
        · have hi1' : (i : Int) < (h : Int) := by omega
          obtain ⟨b1, o1, rfl, hb1, x, hx, hxi, p0⟩ := HRA.out.row (w' := wi) inferInstance (k := i) (by rw [HLA.out]; exact hi1)
          have HXA := hide hx
          have l1 : b1 < wi.heap.size := by have := (fut w5 wi).size; omega
          clear hx
          by_cases hk1 : k < lb
          · have hk1' : (k : Int) < (lb : Int) := by omega
            have hkn : ((k : Int) == (lb : Int)) = false := beq_eq_false_iff_ne.2 (by omega)
            obtain ⟨b3, o3, rfl, hb3, y, hy, hyi, q0⟩ := HRB.out.row (w' := wi) inferInstance (k := k) (by rw [HLB.out]; exact hk1)
            have HYB := hide hy
            have l3 : b3 < wi.heap.size := by omega
            clear hy
            have RC := fun w' [Fut w5 w'] [Fut w6 w'] => rrowcmp_any x y w' hxi hyi
            obtain ⟨c, hc⟩ : ∃ c, cmpL x.vs y.vs = c := ⟨_, rfl⟩
            rw [hc] at RC
            have RC := hide RC
            have HCV := hide hc
            clear hc
            by_cases hc0 : c ≤ 0
            · have HLE : Hid (∀ y', xb[k]? = some y' → ltA y' x = false) := fun y' hy' => by
                rw [HYB.out] at hy'; injection hy' with hy'; subst hy'
                exact cmp_le.1 (by rw [HCV.out]; exact hc0)
              go_upto_region 12 with (fail)
              refine wp_region_held_drew (S := (fun w' => Step wi w' ∧ (∀ b o, b < wi.heap.size → w'.cell? ⟨b, o, none⟩ = wi.cell? ⟨b, o, none⟩))) (by kernel_rfl) (by (try dsimp only); (first | exact ⟨hS1, hS2⟩ | exact ⟨Step.of, (bcell (fut _ _)).1⟩)) (fun hHeld => ?_)
              refine wpAnyH_take (i := 0) (oi := ⟨some 50, _, _, _, _, _⟩) (v := ?_) rfl (by kernel_rfl) (by kernel_rfl) (by kernel_rfl) (fun _ _ _ h => h) (Or.inl ⟨by rfl, ?_⟩) (by assumption) ?_
              rotate_left
              · ((intro w hSw); (try dsimp only at hSw); go_simp; (try with_reducible rfl))
              (try simp only [Act.put, List.setIfInBounds_toArray, List.set_cons_zero, List.set_cons_succ])
              refine wpAnyH_take (i := 1) (oi := ⟨some 51, _, _, _, _, _⟩) (v := ?_) rfl (by kernel_rfl) (by kernel_rfl) (by kernel_rfl) (fun _ _ _ h => h) (Or.inl ⟨by rfl, ?_⟩) (by assumption) ?_
              rotate_left
              · ((intro w hSw); (try dsimp only at hSw); go_simp; (try with_reducible rfl))
              (try simp only [Act.put, List.setIfInBounds_toArray, List.set_cons_zero, List.set_cons_succ])
              refine wpAnyH_take (i := 2) (oi := ⟨some 52, _, _, _, _, _⟩) (v := ?_) rfl (by kernel_rfl) (by kernel_rfl) (by kernel_rfl) (fun _ _ _ h => h) (Or.inl ⟨by rfl, ?_⟩) (by assumption) ?_
              rotate_left
              · ((intro w hSw); (try dsimp only at hSw); go_simp; (try with_reducible rfl))
              (try simp only [Act.put, List.setIfInBounds_toArray, List.set_cons_zero, List.set_cons_succ])
              refine wpAnyH_take (i := 3) (oi := ⟨some 53, _, _, _, _, _⟩) (v := ?_) rfl (by kernel_rfl) (by kernel_rfl) (by kernel_rfl) (fun _ _ _ h => h) (Or.inl ⟨by rfl, ?_⟩) (by assumption) ?_
              rotate_left
              · ((intro w hSw); (try dsimp only at hSw); go_simp; (try with_reducible rfl))
              (try simp only [Act.put, List.setIfInBounds_toArray, List.set_cons_zero, List.set_cons_succ])
              refine wpAnyH_take (i := 4) (oi := ⟨some 54, _, _, _, _, _⟩) (v := ?_) rfl (by kernel_rfl) (by kernel_rfl) (by kernel_rfl) (fun _ _ _ h => h) (Or.inl ⟨by rfl, ?_⟩) (by assumption) ?_
              rotate_left
              · ((intro w hSw); (try dsimp only at hSw); go_simp; (try with_reducible rfl))
              (try simp only [Act.put, List.setIfInBounds_toArray, List.set_cons_zero, List.set_cons_succ])
              refine wpAnyH_take (i := 5) (oi := ⟨some 55, _, _, _, _, _⟩) (v := ?_) rfl (by kernel_rfl) (by kernel_rfl) (by kernel_rfl) (fun _ _ _ h => h) (Or.inl ⟨by rfl, ?_⟩) (by assumption) ?_
              rotate_left
              · ((intro w hSw); (try dsimp only at hSw); go_simp; (try with_reducible rfl))
              (try simp only [Act.put, List.setIfInBounds_toArray, List.set_cons_zero, List.set_cons_succ])
              refine wpAnyH_take (i := 6) (oi := ⟨some 56, _, _, _, _, _⟩) (v := ?_) rfl (by kernel_rfl) (by kernel_rfl) (by kernel_rfl) (fun _ _ _ h => h) (Or.inl ⟨by rfl, ?_⟩) (by assumption) ?_
              rotate_left
              · ((intro w hSw); (try dsimp only at hSw); go_simp; (try with_reducible rfl))
              (try simp only [Act.put, List.setIfInBounds_toArray, List.set_cons_zero, List.set_cons_succ])
              refine wpAnyH_take (i := 7) (oi := ⟨some 57, _, _, _, _, _⟩) (v := ?_) rfl (by kernel_rfl) (by kernel_rfl) (by kernel_rfl) (fun _ _ _ h => h) (Or.inl ⟨by rfl, ?_⟩) (by assumption) ?_
              rotate_left
              · ((intro w hSw); (try dsimp only at hSw); go_simp; (try with_reducible rfl))
              (try simp only [Act.put, List.setIfInBounds_toArray, List.set_cons_zero, List.set_cons_succ])
              refine wpAnyH_take (i := 8) (oi := ⟨some 58, _, _, _, _, _⟩) (v := ?_) rfl (by kernel_rfl) (by kernel_rfl) (by kernel_rfl) (fun _ _ _ h => h) (Or.inl ⟨by rfl, ?_⟩) (by assumption) ?_
              rotate_left
              · ((intro w hSw); (try dsimp only at hSw); go_simp; (try with_reducible rfl))
              (try simp only [Act.put, List.setIfInBounds_toArray, List.set_cons_zero, List.set_cons_succ])
              refine wpAnyH_take (i := 9) (oi := ⟨some 59, _, _, _, _, _⟩) (v := ?_) rfl (by kernel_rfl) (by kernel_rfl) (by kernel_rfl) (fun _ _ _ h => h) (Or.inl ⟨by rfl, ?_⟩) (by assumption) ?_
              rotate_left
              · ((intro w hSw); (try dsimp only at hSw); go_simp; (try with_reducible rfl))
              (try simp only [Act.put, List.setIfInBounds_toArray, List.set_cons_zero, List.set_cons_succ])
              refine wpAnyH_take (i := 10) (oi := ⟨some 60, _, _, _, _, _⟩) (v := ?_) rfl (by kernel_rfl) (by kernel_rfl) (by kernel_rfl) (fun _ _ _ h => h) (Or.inl ⟨by rfl, ?_⟩) (by assumption) ?_
              rotate_left
              · ((intro w hSw); (try dsimp only at hSw); go_simp; (try with_reducible rfl))
              (try simp only [Act.put, List.setIfInBounds_toArray, List.set_cons_zero, List.set_cons_succ])
              refine wpAnyH_take (i := 11) (oi := ⟨some 61, _, _, _, _, _⟩) (v := ?_) rfl (by kernel_rfl) (by kernel_rfl) (by kernel_rfl) (fun _ _ _ h => h) (Or.inl ⟨by rfl, ?_⟩) (by assumption) ?_
              rotate_left
              · ((intro w hSw); (try dsimp only at hSw); go_simp; (try with_reducible rfl))
              (try simp only [Act.put, List.setIfInBounds_toArray, List.set_cons_zero, List.set_cons_succ])
              refine wpAnyH_take (i := 14) (oi := ⟨some 64, _, _, _, _, _⟩) (v := ?_) rfl (by kernel_rfl) (by kernel_rfl) (by kernel_rfl) (fun _ _ _ h => h) (Or.inl ⟨by rfl, ?_⟩) (by assumption) ?_
              rotate_left
              · ((intro w hSw); (try dsimp only at hSw); go_simp; (try with_reducible rfl))
              (try simp only [Act.put, List.setIfInBounds_toArray, List.set_cons_zero, List.set_cons_succ])
              refine wpAnyH_take (i := 15) (oi := ⟨some 65, _, _, _, _, _⟩) (v := ?_) rfl (by kernel_rfl) (by kernel_rfl) (by kernel_rfl) (fun _ _ _ h => h) (Or.inl ⟨by rfl, ?_⟩) (by assumption) ?_
              rotate_left
              · ((intro w hSw); (try dsimp only at hSw); go_simp; (try with_reducible rfl))
              (try simp only [Act.put, List.setIfInBounds_toArray, List.set_cons_zero, List.set_cons_succ])
              refine wpAnyH_take (i := 12) (oi := ⟨some 62, _, _, _, _, _⟩) (v := ?_) rfl (by kernel_rfl) (by kernel_rfl) (by kernel_rfl) (fun _ _ _ h => h) (Or.inl ⟨by rfl, ?_⟩) (by assumption) ?_
              rotate_left
              · ((intro w hSw); (try dsimp only at hSw); go_simp; (try with_reducible rfl))
              (try simp only [Act.put, List.setIfInBounds_toArray, List.set_cons_zero, List.set_cons_succ])
              refine wpAnyH_take (i := 16) (oi := ⟨some 66, _, _, _, _, _⟩) (v := ?_) rfl (by kernel_rfl) (by kernel_rfl) (by kernel_rfl) (fun _ _ _ h => h) (Or.inl ⟨by rfl, ?_⟩) (by assumption) ?_
              rotate_left
              · ((intro w hSw); (try dsimp only at hSw); go_simp; (try with_reducible rfl))
              (try simp only [Act.put, List.setIfInBounds_toArray, List.set_cons_zero, List.set_cons_succ])
              refine wpAnyH_take (i := 13) (oi := ⟨some 63, _, _, _, _, _⟩) (v := ?_) rfl (by kernel_rfl) (by kernel_rfl) (by kernel_rfl) (fun _ _ _ h => h) (Or.inl ⟨by rfl, ?_⟩) (by assumption) ?_
              rotate_left
              · ((intro w hSw); (try dsimp only at hSw); go_simp; (try with_reducible rfl))
              (try simp only [Act.put, List.setIfInBounds_toArray, List.set_cons_zero, List.set_cons_succ])
              refine wpAnyH_take (i := 17) (oi := ⟨some 67, _, _, _, _, _⟩) (v := ?_) rfl (by kernel_rfl) (by kernel_rfl) (by kernel_rfl) (fun _ _ _ h => h) (Or.inl ⟨by rfl, ?_⟩) (by assumption) ?_
              rotate_left
              · ((intro w hSw); (try dsimp only at hSw); go_simp; (try with_reducible rfl))
              (try simp only [Act.put, List.setIfInBounds_toArray, List.set_cons_zero, List.set_cons_succ])
              refine wpAnyH_ready (rs := [18]) (by kernel_rfl) (by simp) ?_
              refine AllReadyH.cons (o := ⟨some 68, _, _, _, _, _⟩) rfl (fun K hK => ?_) AllReadyH.nil
              obtain ⟨hS1, hS2⟩ := hHeld
              go_simp
              (go_at_call 26; (with_reducible refine (RC.out _).mono ?_); rintro e w8 ⟨rfl, hs8⟩)
              refine hK.out _ _ (by (try dsimp only); (first | exact ⟨hS1, hS2⟩ | exact ⟨Step.of, (bcell (fut _ _)).1⟩)) (fun hHeld => ?_)
              clear hK K
              (try simp only [Act.put, List.setIfInBounds_toArray, List.set_cons_zero, List.set_cons_succ])
              refine wpAnyH_take (i := 19) (oi := ⟨some 69, _, _, _, _, _⟩) (v := ?_) rfl (by kernel_rfl) (by kernel_rfl) (by kernel_rfl) (fun _ _ _ h => h) (Or.inl ⟨by rfl, ?_⟩) (by assumption) ?_
              rotate_left
              · ((intro w hSw); (try dsimp only at hSw); go_simp; (try with_reducible rfl))
              (try simp only [Act.put, List.setIfInBounds_toArray, List.set_cons_zero, List.set_cons_succ])
              refine wpAnyH_take (i := 20) (oi := ⟨some 70, _, _, _, _, _⟩) (v := ?_) rfl (by kernel_rfl) (by kernel_rfl) (by kernel_rfl) (fun _ _ _ h => h) (Or.inl ⟨by rfl, ?_⟩) (by assumption) ?_
              rotate_left
              · ((intro w hSw); (try dsimp only at hSw); go_simp; (try with_reducible rfl))
              (try simp only [Act.put, List.setIfInBounds_toArray, List.set_cons_zero, List.set_cons_succ])
              refine wpAnyH_take (i := 21) (oi := ⟨some 71, _, _, _, _, _⟩) (v := ?_) rfl (by kernel_rfl) (by kernel_rfl) (by kernel_rfl) (fun _ _ _ h => h) (Or.inl ⟨by rfl, ?_⟩) (by assumption) ?_
              rotate_left
              · ((intro w hSw); (try dsimp only at hSw); go_simp; (try with_reducible rfl))
              (try simp only [Act.put, List.setIfInBounds_toArray, List.set_cons_zero, List.set_cons_succ])
              refine wpAnyH_done (by kernel_rfl) ?_ _
              clear hHeld
              have p8 : w8.cell? ⟨b1, o1 + i, none⟩ = some (.slice x.A x.vs.length x.cap) := by rw [(bcell (fut wi w8)).1 _ _ l1]; exact p0
              have l8 : b1 < w8.heap.size := Nat.lt_of_lt_of_le l1 (fut wi w8).size
              clear p0 q0 l1 l3
              have HML := hide (HMG.out.left weakA HAX.out HBX.out HXA.out HLE.out)
              go_wp2_with (at_builtin; have HOW := hide ((HQ.out.fut (w' := w8)).alloc (.cells #[.slice x.A x.vs.length x.cap] 54)); have HNew := hide (SlAt.one w8 1 [.slice x.A x.vs.length x.cap] 54); go_loud (refine wpList_append_sl rfl (.tmp 72) (.tmp 77) 28 rfl eiRow (base := w6.heap.size) (xs := os.map RowA.cells) rfl HOW.out (rows_fit _) (ys := [[.slice x.A x.vs.length x.cap]]) rfl (by simp) HNew.out (slice_fit x.A x.vs.length x.cap) (by rw [List.length_map, HOL.out]; show (i + k + 1) * 24 ≤ _; omega) (fut w6 (w8.alloc (.cells #[.slice x.A x.vs.length x.cap] 54))).size (N := i + k + 1) (by rw [List.length_map, HOL.out]; rfl) ?_; intro A9 c9 w9 hq1 hq2 hown9 hgr9 hbel9; have H9 := hide hown9; have hs9 : Step w6 w9 := ⟨(fut w6 (w8.alloc (.cells #[.slice x.A x.vs.length x.cap] 54))).trans hbel9⟩; clear hown9 hgr9 hbel9))
              go_roundw
              case rel => exact ⟨i + 1, k, os ++ [x], A9, c9, by omega, by omega, by go_num, rfl, by rw [show i + 1 + k = i + k + 1 by omega], HML.out, by show _ = _; rw [List.length_append, HOL.out]; simp; omega, by rw [show i + 1 + k = i + k + 1 by omega, List.map_append]; exact H9.out, hs9⟩
              case measure => simp [lenV]; omega
            · have HLE : Hid (∀ x', xa[i]? = some x' → ltA x' y = false) := fun x' hx' => by
                rw [HXA.out] at hx'; injection hx' with hx'; subst hx'
                exact cmp_gt (by rw [HCV.out]; exact hc0)
              go_upto_region 12 with (fail)
              refine wp_region_held_drew (S := (fun w' => Step wi w' ∧ (∀ b o, b < wi.heap.size → w'.cell? ⟨b, o, none⟩ = wi.cell? ⟨b, o, none⟩))) (by kernel_rfl) (by (try dsimp only); (first | exact ⟨hS1, hS2⟩ | exact ⟨Step.of, (bcell (fut _ _)).1⟩)) (fun hHeld => ?_)
              refine wpAnyH_take (i := 0) (oi := ⟨some 50, _, _, _, _, _⟩) (v := ?_) rfl (by kernel_rfl) (by kernel_rfl) (by kernel_rfl) (fun _ _ _ h => h) (Or.inl ⟨by rfl, ?_⟩) (by assumption) ?_
              rotate_left
              · ((intro w hSw); (try dsimp only at hSw); go_simp; (try with_reducible rfl))
              (try simp only [Act.put, List.setIfInBounds_toArray, List.set_cons_zero, List.set_cons_succ])
              refine wpAnyH_take (i := 1) (oi := ⟨some 51, _, _, _, _, _⟩) (v := ?_) rfl (by kernel_rfl) (by kernel_rfl) (by kernel_rfl) (fun _ _ _ h => h) (Or.inl ⟨by rfl, ?_⟩) (by assumption) ?_
              rotate_left
              · ((intro w hSw); (try dsimp only at hSw); go_simp; (try with_reducible rfl))
              (try simp only [Act.put, List.setIfInBounds_toArray, List.set_cons_zero, List.set_cons_succ])
              refine wpAnyH_take (i := 2) (oi := ⟨some 52, _, _, _, _, _⟩) (v := ?_) rfl (by kernel_rfl) (by kernel_rfl) (by kernel_rfl) (fun _ _ _ h => h) (Or.inl ⟨by rfl, ?_⟩) (by assumption) ?_
              rotate_left
              · ((intro w hSw); (try dsimp only at hSw); go_simp; (try with_reducible rfl))
              (try simp only [Act.put, List.setIfInBounds_toArray, List.set_cons_zero, List.set_cons_succ])
              refine wpAnyH_take (i := 3) (oi := ⟨some 53, _, _, _, _, _⟩) (v := ?_) rfl (by kernel_rfl) (by kernel_rfl) (by kernel_rfl) (fun _ _ _ h => h) (Or.inl ⟨by rfl, ?_⟩) (by assumption) ?_
              rotate_left
              · ((intro w hSw); (try dsimp only at hSw); go_simp; (try with_reducible rfl))
              (try simp only [Act.put, List.setIfInBounds_toArray, List.set_cons_zero, List.set_cons_succ])
              refine wpAnyH_take (i := 4) (oi := ⟨some 54, _, _, _, _, _⟩) (v := ?_) rfl (by kernel_rfl) (by kernel_rfl) (by kernel_rfl) (fun _ _ _ h => h) (Or.inl ⟨by rfl, ?_⟩) (by assumption) ?_
              rotate_left
              · ((intro w hSw); (try dsimp only at hSw); go_simp; (try with_reducible rfl))
              (try simp only [Act.put, List.setIfInBounds_toArray, List.set_cons_zero, List.set_cons_succ])
              refine wpAnyH_take (i := 5) (oi := ⟨some 55, _, _, _, _, _⟩) (v := ?_) rfl (by kernel_rfl) (by kernel_rfl) (by kernel_rfl) (fun _ _ _ h => h) (Or.inl ⟨by rfl, ?_⟩) (by assumption) ?_
              rotate_left
              · ((intro w hSw); (try dsimp only at hSw); go_simp; (try with_reducible rfl))
              (try simp only [Act.put, List.setIfInBounds_toArray, List.set_cons_zero, List.set_cons_succ])
              refine wpAnyH_take (i := 6) (oi := ⟨some 56, _, _, _, _, _⟩) (v := ?_) rfl (by kernel_rfl) (by kernel_rfl) (by kernel_rfl) (fun _ _ _ h => h) (Or.inl ⟨by rfl, ?_⟩) (by assumption) ?_
              rotate_left
              · ((intro w hSw); (try dsimp only at hSw); go_simp; (try with_reducible rfl))
              (try simp only [Act.put, List.setIfInBounds_toArray, List.set_cons_zero, List.set_cons_succ])
              refine wpAnyH_take (i := 7) (oi := ⟨some 57, _, _, _, _, _⟩) (v := ?_) rfl (by kernel_rfl) (by kernel_rfl) (by kernel_rfl) (fun _ _ _ h => h) (Or.inl ⟨by rfl, ?_⟩) (by assumption) ?_
              rotate_left
              · ((intro w hSw); (try dsimp only at hSw); go_simp; (try with_reducible rfl))
              (try simp only [Act.put, List.setIfInBounds_toArray, List.set_cons_zero, List.set_cons_succ])
              refine wpAnyH_take (i := 8) (oi := ⟨some 58, _, _, _, _, _⟩) (v := ?_) rfl (by kernel_rfl) (by kernel_rfl) (by kernel_rfl) (fun _ _ _ h => h) (Or.inl ⟨by rfl, ?_⟩) (by assumption) ?_
              rotate_left
              · ((intro w hSw); (try dsimp only at hSw); go_simp; (try with_reducible rfl))
              (try simp only [Act.put, List.setIfInBounds_toArray, List.set_cons_zero, List.set_cons_succ])
              refine wpAnyH_take (i := 9) (oi := ⟨some 59, _, _, _, _, _⟩) (v := ?_) rfl (by kernel_rfl) (by kernel_rfl) (by kernel_rfl) (fun _ _ _ h => h) (Or.inl ⟨by rfl, ?_⟩) (by assumption) ?_
              rotate_left
              · ((intro w hSw); (try dsimp only at hSw); go_simp; (try with_reducible rfl))
              (try simp only [Act.put, List.setIfInBounds_toArray, List.set_cons_zero, List.set_cons_succ])
              refine wpAnyH_take (i := 10) (oi := ⟨some 60, _, _, _, _, _⟩) (v := ?_) rfl (by kernel_rfl) (by kernel_rfl) (by kernel_rfl) (fun _ _ _ h => h) (Or.inl ⟨by rfl, ?_⟩) (by assumption) ?_
              rotate_left
              · ((intro w hSw); (try dsimp only at hSw); go_simp; (try with_reducible rfl))
              (try simp only [Act.put, List.setIfInBounds_toArray, List.set_cons_zero, List.set_cons_succ])
              refine wpAnyH_take (i := 11) (oi := ⟨some 61, _, _, _, _, _⟩) (v := ?_) rfl (by kernel_rfl) (by kernel_rfl) (by kernel_rfl) (fun _ _ _ h => h) (Or.inl ⟨by rfl, ?_⟩) (by assumption) ?_
              rotate_left
              · ((intro w hSw); (try dsimp only at hSw); go_simp; (try with_reducible rfl))
              (try simp only [Act.put, List.setIfInBounds_toArray, List.set_cons_zero, List.set_cons_succ])
              refine wpAnyH_take (i := 14) (oi := ⟨some 64, _, _, _, _, _⟩) (v := ?_) rfl (by kernel_rfl) (by kernel_rfl) (by kernel_rfl) (fun _ _ _ h => h) (Or.inl ⟨by rfl, ?_⟩) (by assumption) ?_
              rotate_left
              · ((intro w hSw); (try dsimp only at hSw); go_simp; (try with_reducible rfl))
              (try simp only [Act.put, List.setIfInBounds_toArray, List.set_cons_zero, List.set_cons_succ])
              refine wpAnyH_take (i := 15) (oi := ⟨some 65, _, _, _, _, _⟩) (v := ?_) rfl (by kernel_rfl) (by kernel_rfl) (by kernel_rfl) (fun _ _ _ h => h) (Or.inl ⟨by rfl, ?_⟩) (by assumption) ?_
              rotate_left
              · ((intro w hSw); (try dsimp only at hSw); go_simp; (try with_reducible rfl))
              (try simp only [Act.put, List.setIfInBounds_toArray, List.set_cons_zero, List.set_cons_succ])
              refine wpAnyH_take (i := 12) (oi := ⟨some 62, _, _, _, _, _⟩) (v := ?_) rfl (by kernel_rfl) (by kernel_rfl) (by kernel_rfl) (fun _ _ _ h => h) (Or.inl ⟨by rfl, ?_⟩) (by assumption) ?_
              rotate_left
              · ((intro w hSw); (try dsimp only at hSw); go_simp; (try with_reducible rfl))
              (try simp only [Act.put, List.setIfInBounds_toArray, List.set_cons_zero, List.set_cons_succ])
              refine wpAnyH_take (i := 16) (oi := ⟨some 66, _, _, _, _, _⟩) (v := ?_) rfl (by kernel_rfl) (by kernel_rfl) (by kernel_rfl) (fun _ _ _ h => h) (Or.inl ⟨by rfl, ?_⟩) (by assumption) ?_
              rotate_left
              · ((intro w hSw); (try dsimp only at hSw); go_simp; (try with_reducible rfl))
              (try simp only [Act.put, List.setIfInBounds_toArray, List.set_cons_zero, List.set_cons_succ])
              refine wpAnyH_take (i := 13) (oi := ⟨some 63, _, _, _, _, _⟩) (v := ?_) rfl (by kernel_rfl) (by kernel_rfl) (by kernel_rfl) (fun _ _ _ h => h) (Or.inl ⟨by rfl, ?_⟩) (by assumption) ?_
              rotate_left
              · ((intro w hSw); (try dsimp only at hSw); go_simp; (try with_reducible rfl))
              (try simp only [Act.put, List.setIfInBounds_toArray, List.set_cons_zero, List.set_cons_succ])
              refine wpAnyH_take (i := 17) (oi := ⟨some 67, _, _, _, _, _⟩) (v := ?_) rfl (by kernel_rfl) (by kernel_rfl) (by kernel_rfl) (fun _ _ _ h => h) (Or.inl ⟨by rfl, ?_⟩) (by assumption) ?_
              rotate_left
              · ((intro w hSw); (try dsimp only at hSw); go_simp; (try with_reducible rfl))
              (try simp only [Act.put, List.setIfInBounds_toArray, List.set_cons_zero, List.set_cons_succ])
              refine wpAnyH_ready (rs := [18]) (by kernel_rfl) (by simp) ?_
              refine AllReadyH.cons (o := ⟨some 68, _, _, _, _, _⟩) rfl (fun K hK => ?_) AllReadyH.nil
              obtain ⟨hS1, hS2⟩ := hHeld
              go_simp
              (go_at_call 26; (with_reducible refine (RC.out _).mono ?_); rintro e w8 ⟨rfl, hs8⟩)
              refine hK.out _ _ (by (try dsimp only); (first | exact ⟨hS1, hS2⟩ | exact ⟨Step.of, (bcell (fut _ _)).1⟩)) (fun hHeld => ?_)
              clear hK K
              (try simp only [Act.put, List.setIfInBounds_toArray, List.set_cons_zero, List.set_cons_succ])
              refine wpAnyH_take (i := 19) (oi := ⟨some 69, _, _, _, _, _⟩) (v := ?_) rfl (by kernel_rfl) (by kernel_rfl) (by kernel_rfl) (fun _ _ _ h => h) (Or.inl ⟨by rfl, ?_⟩) (by assumption) ?_
              rotate_left
              · ((intro w hSw); (try dsimp only at hSw); go_simp; (try with_reducible rfl))
              (try simp only [Act.put, List.setIfInBounds_toArray, List.set_cons_zero, List.set_cons_succ])
              refine wpAnyH_take (i := 20) (oi := ⟨some 70, _, _, _, _, _⟩) (v := ?_) rfl (by kernel_rfl) (by kernel_rfl) (by kernel_rfl) (fun _ _ _ h => h) (Or.inl ⟨by rfl, ?_⟩) (by assumption) ?_
              rotate_left
              · ((intro w hSw); (try dsimp only at hSw); go_simp; (try with_reducible rfl))
              (try simp only [Act.put, List.setIfInBounds_toArray, List.set_cons_zero, List.set_cons_succ])
              refine wpAnyH_take (i := 21) (oi := ⟨some 71, _, _, _, _, _⟩) (v := ?_) rfl (by kernel_rfl) (by kernel_rfl) (by kernel_rfl) (fun _ _ _ h => h) (Or.inl ⟨by rfl, ?_⟩) (by assumption) ?_
              rotate_left
              · ((intro w hSw); (try dsimp only at hSw); go_simp; (try with_reducible rfl))
              (try simp only [Act.put, List.setIfInBounds_toArray, List.set_cons_zero, List.set_cons_succ])
              refine wpAnyH_done (by kernel_rfl) ?_ _
              clear hHeld
              have p8 : w8.cell? ⟨b3, o3 + k, none⟩ = some (.slice y.A y.vs.length y.cap) := by rw [(bcell (fut wi w8)).1 _ _ l3]; exact q0
              have l8 : b3 < w8.heap.size := Nat.lt_of_lt_of_le l3 (fut wi w8).size
              clear p0 q0 l1 l3
              have HML := hide (HMG.out.right weakA HAX.out HBX.out HYB.out HLE.out)
              go_wp2_with (at_builtin; have HOW := hide ((HQ.out.fut (w' := w8)).alloc (.cells #[.slice y.A y.vs.length y.cap] 54)); have HNew := hide (SlAt.one w8 1 [.slice y.A y.vs.length y.cap] 54); go_loud (refine wpList_append_sl rfl (.tmp 81) (.tmp 86) 28 rfl eiRow (base := w6.heap.size) (xs := os.map RowA.cells) rfl HOW.out (rows_fit _) (ys := [[.slice y.A y.vs.length y.cap]]) rfl (by simp) HNew.out (slice_fit y.A y.vs.length y.cap) (by rw [List.length_map, HOL.out]; show (i + k + 1) * 24 ≤ _; omega) (fut w6 (w8.alloc (.cells #[.slice y.A y.vs.length y.cap] 54))).size (N := i + k + 1) (by rw [List.length_map, HOL.out]; rfl) ?_; intro A9 c9 w9 hq1 hq2 hown9 hgr9 hbel9; have H9 := hide hown9; have hs9 : Step w6 w9 := ⟨(fut w6 (w8.alloc (.cells #[.slice y.A y.vs.length y.cap] 54))).trans hbel9⟩; clear hown9 hgr9 hbel9))
              go_roundw
              case rel => exact ⟨i, k + 1, os ++ [y], A9, c9, by omega, by omega, rfl, by go_num, rfl, HML.out, by show _ = _; rw [List.length_append, HOL.out]; simp; omega, by rw [List.map_append]; exact H9.out, hs9⟩
              case measure => simp [lenV]; omega
          · obtain rfl : k = lb := by omega
            have HLE : Hid (∀ y', xb[k]? = some y' → ltA y' x = false) := fun y' hy' => by
              have := (List.getElem?_eq_some_iff.1 hy').1
              rw [HLB.out] at this
              omega
            go_upto_region 12 with (fail)
            refine wp_region_held_drew (S := (fun w' => Step wi w' ∧ (∀ b o, b < wi.heap.size → w'.cell? ⟨b, o, none⟩ = wi.cell? ⟨b, o, none⟩))) (by kernel_rfl) (by (try dsimp only); (first | exact ⟨hS1, hS2⟩ | exact ⟨Step.of, (bcell (fut _ _)).1⟩)) (fun hHeld => ?_)
            refine wpAnyH_take (i := 0) (oi := ⟨some 50, _, _, _, _, _⟩) (v := ?_) rfl (by kernel_rfl) (by kernel_rfl) (by kernel_rfl) (fun _ _ _ h => h) (Or.inl ⟨by rfl, ?_⟩) (by assumption) ?_
            rotate_left
            · ((intro w hSw); (try dsimp only at hSw); go_simp; (try with_reducible rfl))
            (try simp only [Act.put, List.setIfInBounds_toArray, List.set_cons_zero, List.set_cons_succ])
            refine wpAnyH_take (i := 1) (oi := ⟨some 51, _, _, _, _, _⟩) (v := ?_) rfl (by kernel_rfl) (by kernel_rfl) (by kernel_rfl) (fun _ _ _ h => h) (Or.inl ⟨by rfl, ?_⟩) (by assumption) ?_
            rotate_left
            · ((intro w hSw); (try dsimp only at hSw); go_simp; (try with_reducible rfl))
            (try simp only [Act.put, List.setIfInBounds_toArray, List.set_cons_zero, List.set_cons_succ])
            refine wpAnyH_take (i := 2) (oi := ⟨some 52, _, _, _, _, _⟩) (v := ?_) rfl (by kernel_rfl) (by kernel_rfl) (by kernel_rfl) (fun _ _ _ h => h) (Or.inl ⟨by rfl, ?_⟩) (by assumption) ?_
            rotate_left
            · ((intro w hSw); (try dsimp only at hSw); go_simp; (try with_reducible rfl))
            (try simp only [Act.put, List.setIfInBounds_toArray, List.set_cons_zero, List.set_cons_succ])
            refine wpAnyH_take (i := 3) (oi := ⟨some 53, _, _, _, _, _⟩) (v := ?_) rfl (by kernel_rfl) (by kernel_rfl) (by kernel_rfl) (fun _ _ _ h => h) (Or.inl ⟨by rfl, ?_⟩) (by assumption) ?_
            rotate_left
            · ((intro w hSw); (try dsimp only at hSw); go_simp; (try with_reducible rfl))
            (try simp only [Act.put, List.setIfInBounds_toArray, List.set_cons_zero, List.set_cons_succ])
            refine wpAnyH_take (i := 4) (oi := ⟨some 54, _, _, _, _, _⟩) (v := ?_) rfl (by kernel_rfl) (by kernel_rfl) (by kernel_rfl) (fun _ _ _ h => h) (Or.inl ⟨by rfl, ?_⟩) (by assumption) ?_
            rotate_left
            · ((intro w hSw); (try dsimp only at hSw); go_simp; (try with_reducible rfl))
            (try simp only [Act.put, List.setIfInBounds_toArray, List.set_cons_zero, List.set_cons_succ])
            refine wpAnyH_take (i := 5) (oi := ⟨some 55, _, _, _, _, _⟩) (v := undef) rfl (by kernel_rfl) (by kernel_rfl) (by kernel_rfl) (fun _ _ _ h => h) (Or.inr ⟨by rfl, rfl⟩) (by assumption) ?_
            (try simp only [Act.put, List.setIfInBounds_toArray, List.set_cons_zero, List.set_cons_succ])
            refine wpAnyH_take (i := 6) (oi := ⟨some 56, _, _, _, _, _⟩) (v := undef) rfl (by kernel_rfl) (by kernel_rfl) (by kernel_rfl) (fun _ _ _ h => h) (Or.inr ⟨by rfl, rfl⟩) (by assumption) ?_
            (try simp only [Act.put, List.setIfInBounds_toArray, List.set_cons_zero, List.set_cons_succ])
            refine wpAnyH_take (i := 7) (oi := ⟨some 57, _, _, _, _, _⟩) (v := undef) rfl (by kernel_rfl) (by kernel_rfl) (by kernel_rfl) (fun _ _ _ h => h) (Or.inr ⟨by rfl, rfl⟩) (by assumption) ?_
            (try simp only [Act.put, List.setIfInBounds_toArray, List.set_cons_zero, List.set_cons_succ])
            refine wpAnyH_take (i := 8) (oi := ⟨some 58, _, _, _, _, _⟩) (v := undef) rfl (by kernel_rfl) (by kernel_rfl) (by kernel_rfl) (fun _ _ _ h => h) (Or.inr ⟨by rfl, rfl⟩) (by assumption) ?_
            (try simp only [Act.put, List.setIfInBounds_toArray, List.set_cons_zero, List.set_cons_succ])
            refine wpAnyH_take (i := 9) (oi := ⟨some 59, _, _, _, _, _⟩) (v := undef) rfl (by kernel_rfl) (by kernel_rfl) (by kernel_rfl) (fun _ _ _ h => h) (Or.inr ⟨by rfl, rfl⟩) (by assumption) ?_
            (try simp only [Act.put, List.setIfInBounds_toArray, List.set_cons_zero, List.set_cons_succ])
            refine wpAnyH_take (i := 10) (oi := ⟨some 60, _, _, _, _, _⟩) (v := undef) rfl (by kernel_rfl) (by kernel_rfl) (by kernel_rfl) (fun _ _ _ h => h) (Or.inr ⟨by rfl, rfl⟩) (by assumption) ?_
            (try simp only [Act.put, List.setIfInBounds_toArray, List.set_cons_zero, List.set_cons_succ])
            refine wpAnyH_take (i := 11) (oi := ⟨some 61, _, _, _, _, _⟩) (v := undef) rfl (by kernel_rfl) (by kernel_rfl) (by kernel_rfl) (fun _ _ _ h => h) (Or.inr ⟨by rfl, rfl⟩) (by assumption) ?_
            (try simp only [Act.put, List.setIfInBounds_toArray, List.set_cons_zero, List.set_cons_succ])
            refine wpAnyH_take (i := 14) (oi := ⟨some 64, _, _, _, _, _⟩) (v := undef) rfl (by kernel_rfl) (by kernel_rfl) (by kernel_rfl) (fun _ _ _ h => h) (Or.inr ⟨by rfl, rfl⟩) (by assumption) ?_
            (try simp only [Act.put, List.setIfInBounds_toArray, List.set_cons_zero, List.set_cons_succ])
            refine wpAnyH_take (i := 15) (oi := ⟨some 65, _, _, _, _, _⟩) (v := undef) rfl (by kernel_rfl) (by kernel_rfl) (by kernel_rfl) (fun _ _ _ h => h) (Or.inr ⟨by rfl, rfl⟩) (by assumption) ?_
            (try simp only [Act.put, List.setIfInBounds_toArray, List.set_cons_zero, List.set_cons_succ])
            refine wpAnyH_take (i := 12) (oi := ⟨some 62, _, _, _, _, _⟩) (v := undef) rfl (by kernel_rfl) (by kernel_rfl) (by kernel_rfl) (fun _ _ _ h => h) (Or.inr ⟨by rfl, rfl⟩) (by assumption) ?_
            (try simp only [Act.put, List.setIfInBounds_toArray, List.set_cons_zero, List.set_cons_succ])
            refine wpAnyH_take (i := 16) (oi := ⟨some 66, _, _, _, _, _⟩) (v := undef) rfl (by kernel_rfl) (by kernel_rfl) (by kernel_rfl) (fun _ _ _ h => h) (Or.inr ⟨by rfl, rfl⟩) (by assumption) ?_
            (try simp only [Act.put, List.setIfInBounds_toArray, List.set_cons_zero, List.set_cons_succ])
            refine wpAnyH_take (i := 13) (oi := ⟨some 63, _, _, _, _, _⟩) (v := undef) rfl (by kernel_rfl) (by kernel_rfl) (by kernel_rfl) (fun _ _ _ h => h) (Or.inr ⟨by rfl, rfl⟩) (by assumption) ?_
            (try simp only [Act.put, List.setIfInBounds_toArray, List.set_cons_zero, List.set_cons_succ])
            refine wpAnyH_take (i := 17) (oi := ⟨some 67, _, _, _, _, _⟩) (v := undef) rfl (by kernel_rfl) (by kernel_rfl) (by kernel_rfl) (fun _ _ _ h => h) (Or.inr ⟨by rfl, rfl⟩) (by assumption) ?_
            (try simp only [Act.put, List.setIfInBounds_toArray, List.set_cons_zero, List.set_cons_succ])
            refine wpAnyH_take (i := 18) (oi := ⟨some 68, _, _, _, _, _⟩) (v := undef) rfl (by kernel_rfl) (by kernel_rfl) (by kernel_rfl) (fun _ _ _ h => h) (Or.inr ⟨by rfl, rfl⟩) (by assumption) ?_
            (try simp only [Act.put, List.setIfInBounds_toArray, List.set_cons_zero, List.set_cons_succ])
            refine wpAnyH_take (i := 19) (oi := ⟨some 69, _, _, _, _, _⟩) (v := undef) rfl (by kernel_rfl) (by kernel_rfl) (by kernel_rfl) (fun _ _ _ h => h) (Or.inr ⟨by rfl, rfl⟩) (by assumption) ?_
            (try simp only [Act.put, List.setIfInBounds_toArray, List.set_cons_zero, List.set_cons_succ])
            refine wpAnyH_take (i := 20) (oi := ⟨some 70, _, _, _, _, _⟩) (v := undef) rfl (by kernel_rfl) (by kernel_rfl) (by kernel_rfl) (fun _ _ _ h => h) (Or.inr ⟨by rfl, rfl⟩) (by assumption) ?_
            (try simp only [Act.put, List.setIfInBounds_toArray, List.set_cons_zero, List.set_cons_succ])
            refine wpAnyH_take (i := 21) (oi := ⟨some 71, _, _, _, _, _⟩) (v := ?_) rfl (by kernel_rfl) (by kernel_rfl) (by kernel_rfl) (fun _ _ _ h => h) (Or.inl ⟨by rfl, ?_⟩) (by assumption) ?_
            rotate_left
            · ((intro w hSw); (try dsimp only at hSw); go_simp; (try with_reducible rfl))
            (try simp only [Act.put, List.setIfInBounds_toArray, List.set_cons_zero, List.set_cons_succ])
            refine wpAnyH_done (by kernel_rfl) ?_ _
            have HML := hide (HMG.out.left weakA HAX.out HBX.out HXA.out HLE.out)
            go_wp2_with (at_builtin; have HOW := hide ((HQ.out.fut (w' := wi)).alloc (.cells #[.slice x.A x.vs.length x.cap] 54)); have HNew := hide (SlAt.one wi 1 [.slice x.A x.vs.length x.cap] 54); go_loud (refine wpList_append_sl rfl (.tmp 72) (.tmp 77) 28 rfl eiRow (base := w6.heap.size) (xs := os.map RowA.cells) rfl HOW.out (rows_fit _) (ys := [[.slice x.A x.vs.length x.cap]]) rfl (by simp) HNew.out (slice_fit x.A x.vs.length x.cap) (by rw [List.length_map, HOL.out]; show (i + k + 1) * 24 ≤ _; omega) (fut w6 (wi.alloc (.cells #[.slice x.A x.vs.length x.cap] 54))).size (N := i + k + 1) (by rw [List.length_map, HOL.out]; rfl) ?_; intro A9 c9 w9 hq1 hq2 hown9 hgr9 hbel9; have H9 := hide hown9; have hs9 : Step w6 w9 := ⟨(fut w6 (wi.alloc (.cells #[.slice x.A x.vs.length x.cap] 54)).drew).trans hbel9⟩; clear hown9 hgr9 hbel9))
            go_roundw
            case rel => exact ⟨i + 1, k, os ++ [x], A9, c9, by omega, by omega, by go_num, rfl, by rw [show i + 1 + k = i + k + 1 by omega], HML.out, by show _ = _; rw [List.length_append, HOL.out]; simp; omega, by rw [show i + 1 + k = i + k + 1 by omega, List.map_append]; exact H9.out, hs9⟩
            case measure => simp [lenV]; omega
        · obtain rfl : i = h := by omega
          by_cases hk1 : k < lb
          · have hk1' : (k : Int) < (lb : Int) := by omega
            have hkn : ((k : Int) == (lb : Int)) = false := beq_eq_false_iff_ne.2 (by omega)
            obtain ⟨b3, o3, rfl, hb3, y, hy, hyi, q0⟩ := HRB.out.row (w' := wi) inferInstance (k := k) (by rw [HLB.out]; exact hk1)
            have HYB := hide hy
            have l3 : b3 < wi.heap.size := by omega
            clear hy
            have HLE : Hid (∀ x', xa[i]? = some x' → ltA x' y = false) := fun x' hx' => by
              have := (List.getElem?_eq_some_iff.1 hx').1
              rw [HLA.out] at this
              omega
            go_upto_region 12 with (fail)
            refine wp_region_held_drew (S := (fun w' => Step wi w' ∧ (∀ b o, b < wi.heap.size → w'.cell? ⟨b, o, none⟩ = wi.cell? ⟨b, o, none⟩))) (by kernel_rfl) (by (try dsimp only); (first | exact ⟨hS1, hS2⟩ | exact ⟨Step.of, (bcell (fut _ _)).1⟩)) (fun hHeld => ?_)
            refine wpAnyH_take (i := 0) (oi := ⟨some 50, _, _, _, _, _⟩) (v := ?_) rfl (by kernel_rfl) (by kernel_rfl) (by kernel_rfl) (fun _ _ _ h => h) (Or.inl ⟨by rfl, ?_⟩) (by assumption) ?_
            rotate_left
            · ((intro w hSw); (try dsimp only at hSw); go_simp; (try with_reducible rfl))
            (try simp only [Act.put, List.setIfInBounds_toArray, List.set_cons_zero, List.set_cons_succ])
            refine wpAnyH_take (i := 1) (oi := ⟨some 51, _, _, _, _, _⟩) (v := ?_) rfl (by kernel_rfl) (by kernel_rfl) (by kernel_rfl) (fun _ _ _ h => h) (Or.inl ⟨by rfl, ?_⟩) (by assumption) ?_
            rotate_left
            · ((intro w hSw); (try dsimp only at hSw); go_simp; (try with_reducible rfl))
            (try simp only [Act.put, List.setIfInBounds_toArray, List.set_cons_zero, List.set_cons_succ])
            refine wpAnyH_take (i := 2) (oi := ⟨some 52, _, _, _, _, _⟩) (v := ?_) rfl (by kernel_rfl) (by kernel_rfl) (by kernel_rfl) (fun _ _ _ h => h) (Or.inl ⟨by rfl, ?_⟩) (by assumption) ?_
            rotate_left
            · ((intro w hSw); (try dsimp only at hSw); go_simp; (try with_reducible rfl))
            (try simp only [Act.put, List.setIfInBounds_toArray, List.set_cons_zero, List.set_cons_succ])
            refine wpAnyH_take (i := 3) (oi := ⟨some 53, _, _, _, _, _⟩) (v := ?_) rfl (by kernel_rfl) (by kernel_rfl) (by kernel_rfl) (fun _ _ _ h => h) (Or.inl ⟨by rfl, ?_⟩) (by assumption) ?_
            rotate_left
            · ((intro w hSw); (try dsimp only at hSw); go_simp; (try with_reducible rfl))
            (try simp only [Act.put, List.setIfInBounds_toArray, List.set_cons_zero, List.set_cons_succ])
            refine wpAnyH_take (i := 4) (oi := ⟨some 54, _, _, _, _, _⟩) (v := ?_) rfl (by kernel_rfl) (by kernel_rfl) (by kernel_rfl) (fun _ _ _ h => h) (Or.inl ⟨by rfl, ?_⟩) (by assumption) ?_
            rotate_left
            · ((intro w hSw); (try dsimp only at hSw); go_simp; (try with_reducible rfl))
            (try simp only [Act.put, List.setIfInBounds_toArray, List.set_cons_zero, List.set_cons_succ])
            refine wpAnyH_take (i := 5) (oi := ⟨some 55, _, _, _, _, _⟩) (v := ?_) rfl (by kernel_rfl) (by kernel_rfl) (by kernel_rfl) (fun _ _ _ h => h) (Or.inl ⟨by rfl, ?_⟩) (by assumption) ?_
            rotate_left
            · ((intro w hSw); (try dsimp only at hSw); go_simp; (try with_reducible rfl))
            (try simp only [Act.put, List.setIfInBounds_toArray, List.set_cons_zero, List.set_cons_succ])
            refine wpAnyH_take (i := 6) (oi := ⟨some 56, _, _, _, _, _⟩) (v := ?_) rfl (by kernel_rfl) (by kernel_rfl) (by kernel_rfl) (fun _ _ _ h => h) (Or.inl ⟨by rfl, ?_⟩) (by assumption) ?_
            rotate_left
            · ((intro w hSw); (try dsimp only at hSw); go_simp; (try with_reducible rfl))
            (try simp only [Act.put, List.setIfInBounds_toArray, List.set_cons_zero, List.set_cons_succ])
            refine wpAnyH_take (i := 7) (oi := ⟨some 57, _, _, _, _, _⟩) (v := ?_) rfl (by kernel_rfl) (by kernel_rfl) (by kernel_rfl) (fun _ _ _ h => h) (Or.inl ⟨by rfl, ?_⟩) (by assumption) ?_
            rotate_left
            · ((intro w hSw); (try dsimp only at hSw); go_simp; (try with_reducible rfl))
            (try simp only [Act.put, List.setIfInBounds_toArray, List.set_cons_zero, List.set_cons_succ])
            refine wpAnyH_take (i := 8) (oi := ⟨some 58, _, _, _, _, _⟩) (v := ?_) rfl (by kernel_rfl) (by kernel_rfl) (by kernel_rfl) (fun _ _ _ h => h) (Or.inl ⟨by rfl, ?_⟩) (by assumption) ?_
            rotate_left
            · ((intro w hSw); (try dsimp only at hSw); go_simp; (try with_reducible rfl))
            (try simp only [Act.put, List.setIfInBounds_toArray, List.set_cons_zero, List.set_cons_succ])
            refine wpAnyH_take (i := 9) (oi := ⟨some 59, _, _, _, _, _⟩) (v := ?_) rfl (by kernel_rfl) (by kernel_rfl) (by kernel_rfl) (fun _ _ _ h => h) (Or.inl ⟨by rfl, ?_⟩) (by assumption) ?_
            rotate_left
            · ((intro w hSw); (try dsimp only at hSw); go_simp; (try with_reducible rfl))
            (try simp only [Act.put, List.setIfInBounds_toArray, List.set_cons_zero, List.set_cons_succ])
            refine wpAnyH_take (i := 10) (oi := ⟨some 60, _, _, _, _, _⟩) (v := undef) rfl (by kernel_rfl) (by kernel_rfl) (by kernel_rfl) (fun _ _ _ h => h) (Or.inr ⟨by rfl, rfl⟩) (by assumption) ?_
            (try simp only [Act.put, List.setIfInBounds_toArray, List.set_cons_zero, List.set_cons_succ])
            refine wpAnyH_take (i := 11) (oi := ⟨some 61, _, _, _, _, _⟩) (v := undef) rfl (by kernel_rfl) (by kernel_rfl) (by kernel_rfl) (fun _ _ _ h => h) (Or.inr ⟨by rfl, rfl⟩) (by assumption) ?_
            (try simp only [Act.put, List.setIfInBounds_toArray, List.set_cons_zero, List.set_cons_succ])
            refine wpAnyH_take (i := 14) (oi := ⟨some 64, _, _, _, _, _⟩) (v := undef) rfl (by kernel_rfl) (by kernel_rfl) (by kernel_rfl) (fun _ _ _ h => h) (Or.inr ⟨by rfl, rfl⟩) (by assumption) ?_
            (try simp only [Act.put, List.setIfInBounds_toArray, List.set_cons_zero, List.set_cons_succ])
            refine wpAnyH_take (i := 15) (oi := ⟨some 65, _, _, _, _, _⟩) (v := undef) rfl (by kernel_rfl) (by kernel_rfl) (by kernel_rfl) (fun _ _ _ h => h) (Or.inr ⟨by rfl, rfl⟩) (by assumption) ?_
            (try simp only [Act.put, List.setIfInBounds_toArray, List.set_cons_zero, List.set_cons_succ])
            refine wpAnyH_take (i := 12) (oi := ⟨some 62, _, _, _, _, _⟩) (v := undef) rfl (by kernel_rfl) (by kernel_rfl) (by kernel_rfl) (fun _ _ _ h => h) (Or.inr ⟨by rfl, rfl⟩) (by assumption) ?_
            (try simp only [Act.put, List.setIfInBounds_toArray, List.set_cons_zero, List.set_cons_succ])
            refine wpAnyH_take (i := 16) (oi := ⟨some 66, _, _, _, _, _⟩) (v := undef) rfl (by kernel_rfl) (by kernel_rfl) (by kernel_rfl) (fun _ _ _ h => h) (Or.inr ⟨by rfl, rfl⟩) (by assumption) ?_
            (try simp only [Act.put, List.setIfInBounds_toArray, List.set_cons_zero, List.set_cons_succ])
            refine wpAnyH_take (i := 13) (oi := ⟨some 63, _, _, _, _, _⟩) (v := undef) rfl (by kernel_rfl) (by kernel_rfl) (by kernel_rfl) (fun _ _ _ h => h) (Or.inr ⟨by rfl, rfl⟩) (by assumption) ?_
            (try simp only [Act.put, List.setIfInBounds_toArray, List.set_cons_zero, List.set_cons_succ])
            refine wpAnyH_take (i := 17) (oi := ⟨some 67, _, _, _, _, _⟩) (v := undef) rfl (by kernel_rfl) (by kernel_rfl) (by kernel_rfl) (fun _ _ _ h => h) (Or.inr ⟨by rfl, rfl⟩) (by assumption) ?_
            (try simp only [Act.put, List.setIfInBounds_toArray, List.set_cons_zero, List.set_cons_succ])
            refine wpAnyH_take (i := 18) (oi := ⟨some 68, _, _, _, _, _⟩) (v := undef) rfl (by kernel_rfl) (by kernel_rfl) (by kernel_rfl) (fun _ _ _ h => h) (Or.inr ⟨by rfl, rfl⟩) (by assumption) ?_
            (try simp only [Act.put, List.setIfInBounds_toArray, List.set_cons_zero, List.set_cons_succ])
            refine wpAnyH_take (i := 19) (oi := ⟨some 69, _, _, _, _, _⟩) (v := undef) rfl (by kernel_rfl) (by kernel_rfl) (by kernel_rfl) (fun _ _ _ h => h) (Or.inr ⟨by rfl, rfl⟩) (by assumption) ?_
            (try simp only [Act.put, List.setIfInBounds_toArray, List.set_cons_zero, List.set_cons_succ])
            refine wpAnyH_take (i := 20) (oi := ⟨some 70, _, _, _, _, _⟩) (v := ?_) rfl (by kernel_rfl) (by kernel_rfl) (by kernel_rfl) (fun _ _ _ h => h) (Or.inl ⟨by rfl, ?_⟩) (by assumption) ?_
            rotate_left
            · ((intro w hSw); (try dsimp only at hSw); go_simp; (try with_reducible rfl))
            (try simp only [Act.put, List.setIfInBounds_toArray, List.set_cons_zero, List.set_cons_succ])
            refine wpAnyH_take (i := 21) (oi := ⟨some 71, _, _, _, _, _⟩) (v := ?_) rfl (by kernel_rfl) (by kernel_rfl) (by kernel_rfl) (fun _ _ _ h => h) (Or.inl ⟨by rfl, ?_⟩) (by assumption) ?_
            rotate_left
            · ((intro w hSw); (try dsimp only at hSw); go_simp; (try with_reducible rfl))
            (try simp only [Act.put, List.setIfInBounds_toArray, List.set_cons_zero, List.set_cons_succ])
            refine wpAnyH_done (by kernel_rfl) ?_ _
            have HML := hide (HMG.out.right weakA HAX.out HBX.out HYB.out HLE.out)
            go_wp2_with (at_builtin; have HOW := hide ((HQ.out.fut (w' := wi)).alloc (.cells #[.slice y.A y.vs.length y.cap] 54)); have HNew := hide (SlAt.one wi 1 [.slice y.A y.vs.length y.cap] 54); go_loud (refine wpList_append_sl rfl (.tmp 81) (.tmp 86) 28 rfl eiRow (base := w6.heap.size) (xs := os.map RowA.cells) rfl HOW.out (rows_fit _) (ys := [[.slice y.A y.vs.length y.cap]]) rfl (by simp) HNew.out (slice_fit y.A y.vs.length y.cap) (by rw [List.length_map, HOL.out]; show (i + k + 1) * 24 ≤ _; omega) (fut w6 (wi.alloc (.cells #[.slice y.A y.vs.length y.cap] 54))).size (N := i + k + 1) (by rw [List.length_map, HOL.out]; rfl) ?_; intro A9 c9 w9 hq1 hq2 hown9 hgr9 hbel9; have H9 := hide hown9; have hs9 : Step w6 w9 := ⟨(fut w6 (wi.alloc (.cells #[.slice y.A y.vs.length y.cap] 54)).drew).trans hbel9⟩; clear hown9 hgr9 hbel9))
            go_roundw
            case rel => exact ⟨i, k + 1, os ++ [y], A9, c9, by omega, by omega, rfl, by go_num, rfl, HML.out, by show _ = _; rw [List.length_append, HOL.out]; simp; omega, by rw [List.map_append]; exact H9.out, hs9⟩
            case measure => simp [lenV]; omega
          · obtain rfl : k = lb := by omega
            have HDN := hide (Mrg.done (lt := ltA) (a := xa) (b := xb) (out := os) (by rw [HLA.out, HLB.out]; exact HMG.out))
            go_wp2_with fail
            go_ret
            refine ⟨Ao, co, os, by rw [HLEN.out]; rfl, by rw [HOL.out, HLEN.out], asc_map HDN.out.1, ?_, ⟨by rw [HLEN.out]; exact HQ.out.more hz6, fun r hr_ => ?_⟩, Step.of⟩
            · rw [HSP.out]
              refine (HDN.out.2.map RowA.vs).trans ?_
              rw [List.map_append]
              exact List.Perm.append HPA.out HPB.out
            · rcases List.mem_append.1 (HDN.out.2.mem_iff.1 hr_) with q | q
              · exact ((HOA.out.rows r q).more (base' := wo.heap.size) (Nat.le_refl _)).fut
              · exact ((HOB.out.rows r q).more (base' := wo.heap.size) (fut wo w5).size).fut
end Go.Proofs.YtafgfehjdbomfaaDoor
