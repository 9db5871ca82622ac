/-
  The law SelSorts answers true for every rows.
-/
import Derived.Test.YtafgfehjdbomfaaDoorKd
import Derived.Test.YtafgfehjdbomfaaDoorKe
import Derived.Test.YtafgfehjdbomfaaDoorHt
import Derived.Test.YtafgfehjdbomfaaDoorFlRow
namespace Go.Proofs.YtafgfehjdbomfaaDoor
open Go.RowKit

theorem fine_cleanJ {w : World} {r : RowA} (h : RowIn w r) : (cleanL r.vs).length ≤ 3518437208780 ∧ ∀ v ∈ cleanL r.vs, v.s.size ≤ 9223372036854775807 := by
  refine ⟨by simp only [cleanL, List.length_map]; exact h.hcapm, fun v hv => ?_⟩
  obtain ⟨u, hu, rfl⟩ := List.mem_map.1 hv
  exact clean_fine (h.strs u hu)

set_option maxRecDepth 100000 in
set_option maxHeartbeats 16000000 in
theorem ssorts_any (rs : List RowA) (Ar : Option Addr) (cr : Nat) (w : World) (hr : RowsIn w rs Ar cr) :
    Calls Tryd.prog 4 #[.slice Ar rs.length cr] w fun e w' => e = .returned (.bool true) ∧ Step w w' := by
  have hrm := hr.hcapm
  have L0 := hide (fun w' [Fut w w'] => lendRows_any rs Ar cr w' hr)
  have R0 := fun w' [Fut w w'] => rsort_any rs.length rs Ar cr w' rfl hr
  unfold SortPost at R0
  have R0 := hide R0
  go_enter Tryd.func4, Tryd.ntmps4
  go_upto_region 2 with (go_at_call 9; (with_reducible refine (L0.out _).mono ?_); rintro e w1 ⟨A1, c1, o1, rfl, hv1, ho1, hs1⟩; have HV1 := hide hv1; have HO1 := hide ho1; clear hv1 ho1)
  have hz1 := hs1.size
  have hn1 : o1.length = rs.length := by have := congrArg List.length HV1.out; simpa using this
  have HR1 : Hid (RowsIn w1 o1 A1 c1) := by
    have q := HO1.out
    rw [← hn1] at q
    refine q.rin (by omega) fun vs hv => ?_
    rw [HV1.out] at hv
    obtain ⟨r, hr_, rfl⟩ := List.mem_map.1 hv
    exact ⟨(hr.rows r hr_).hcapm, (hr.rows r hr_).strs⟩
  have q1 := fun w' [Fut w1 w'] => psort_any o1 A1 c1 w' HR1.out
  rw [hn1] at q1
  have Q1 := hide q1
  have HN1 := hide hn1
  clear q1 hn1
  go_upto_region 3 with (go_at_call 24; (with_reducible refine (Q1.out _).mono ?_); rintro e w2 ⟨A2, c2, o2, rfl, hn2, has2, hp2, ho2, hs2⟩; have HN2 := hide hn2; have HAS2 := hide has2; have HP2 := hide hp2; have HO2 := hide ho2; clear hn2 has2 hp2 ho2)
  have hz2 := (fut w1 w2).size
  have hfv : ∀ vs ∈ rs.map (fun r => cleanL r.vs), (vs.length ≤ 3518437208780 ∧ ∀ v ∈ vs, v.s.size ≤ 9223372036854775807) ∧ Pure vs := fun vs hv => by
    obtain ⟨r, hr_, rfl⟩ := List.mem_map.1 hv
    exact ⟨fine_cleanJ (hr.rows r hr_), pure_clean _⟩
  have hp2 : (o2.map RowA.vs).Perm (rs.map fun r => cleanL r.vs) := by
    have h1 := HP2.out
    have h2 : (o1.map fun r => cleanL r.vs) = rs.map fun r => cleanL r.vs := by
      have := congrArg (List.map cleanL) HV1.out
      rw [List.map_map, List.map_map] at this
      exact this
    rw [h2] at h1
    exact h1
  have HR2 : Hid (RowsIn w2 o2 A2 c2) := by
    have q := HO2.out
    rw [← HN2.out] at q
    exact q.rin (by rw [HN2.out]; exact hrm) fun vs hv => (hfv vs (hp2.mem_iff.1 hv)).1
  have HFV := hide hfv; have HPP := hide hp2
  clear hfv hp2 Q1
  have HSM : Hid (∀ (w3 : World) (A3 : Option Addr) (c3 : Nat) (o3 : List RowA), o3.length = rs.length → Asc lessL (o3.map RowA.vs) → (o3.map RowA.vs).Perm (rs.map fun r => cleanL r.vs) → ∀ b, OwnR w3 b A3 rs.length c3 o3 → ∀ w' [Fut w2 w'] [Fut w3 w'], Calls Tryd.prog 19 #[.slice A2 rs.length c2, .slice A3 rs.length c3] w' fun e w'' => e = .returned (.bool true) ∧ Step w' w'') := by
    intro w3 A3 c3 o3 hn3 has3 hp3 b ho3 w' _ _
    have he : o2.map RowA.vs = o3.map RowA.vs := sorted_one HAS2.out has3 (HPP.out.trans hp3.symm) (fun x hx => (HFV.out x (HPP.out.mem_iff.1 hx)).2)
    have q := ho3
    rw [← hn3] at q
    have hr3 := q.rin (by rw [hn3]; exact hrm) fun vs hv => (HFV.out vs (hp3.mem_iff.1 hv)).1
    have := sameRows_any o2 o3 A2 A3 c2 c3 w' HR2.out hr3 he
    rw [HN2.out, hn3] at this
    exact this
  go_upto_region 5 with (first
    | (go_at_call 25; (with_reducible refine (R0.out _).mono ?_); rintro e w3 ⟨A3, c3, o3, rfl, hn3, has3, hp3, ho3, hs3⟩; have S3 := hide (HSM.out w3 A3 c3 o3 hn3 has3 hp3 _ ho3); clear hn3 has3 hp3 ho3)
    | (go_at_call 19; (with_reducible refine (S3.out _).mono ?_); rintro e w4 ⟨rfl, hs4⟩))
  have hz4 := (fut w2 w4).size
  have sp : ∀ w' [Fut w2 w'], Calls Tryd.prog 20 #[.slice A2 rs.length c2] w' fun e w'' => e = .returned (.tuple #[]) ∧ Below w1.heap.size w' w'' := by
    intro w' _
    have q := HO2.out
    rw [← HN2.out] at q
    have := spoilRows_any w1.heap.size o2 A2 c2 w' (OwnR.fut (w' := w') q) (by rw [HN2.out]; omega) (fun r hr_ => Nat.le_trans (HFV.out r.vs (HPP.out.mem_iff.1 (List.mem_map.2 ⟨r, hr_, rfl⟩))).1.1 (by decide))
    rw [HN2.out] at this
    exact this
  have SP := hide sp
  clear sp HSM
  go_upto_region 6 with (go_at_call 20; (with_reducible refine (SP.out _).mono ?_); rintro e w5 ⟨rfl, hb5⟩; have HB5 := hide hb5; clear hb5)
  have F5 : Step w1 w5 := ⟨((fut w1 w4).mono (Nat.le_refl _)).trans HB5.out⟩
  have KR := fun w' [Fut w1 w'] [Fut w w'] => keptRows_any (w1 := w1) (w2 := w) w.heap.size o1 rs A1 Ar c1 cr w' (by rw [HN1.out]; exact HO1.out) hr HV1.out
  rw [HN1.out] at KR
  have KR := hide KR
  have hz5 := F5.size
  go_wp2_with (first
    | (go_at_call 21; (with_reducible refine (KR.out _).mono ?_); rintro e w6 ⟨rfl, hs6⟩)
    | (go_at_call 23; refine (awake16_any _).mono ?_; rintro e w7 ⟨rfl, hs7⟩))
  go_ret
  exact ⟨rfl, Step.of⟩
end Go.Proofs.YtafgfehjdbomfaaDoor
