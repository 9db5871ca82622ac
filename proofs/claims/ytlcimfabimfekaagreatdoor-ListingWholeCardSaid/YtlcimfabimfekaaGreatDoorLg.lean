/-
  listing.last, whole, floor: what is asked of numbers in order.
-/
import Derived.Test.YtlcimfabimfekaaGreatDoorLf
namespace Go.Proofs.YtlcimfabimfekaaGreatDoor
open Go.RowKit

/-- Numbers in order, in memory. -/
structure Srt (w : World) (C : List Nat) (ys : List Int) (A : Option Addr) : Prop where
  at_ : SlAt w w.heap.size 1 A (intCells ys)
  rise : Rise ys
  mem : ∀ x, x ∈ ys ↔ ∃ c ∈ C, (c : Int) = x
  len : ys.length < 4611686018427387904
theorem Srt.fut {w w' : World} {C : List Nat} {ys : List Int} {A : Option Addr} (h : Srt w C ys A) [k : Fut w w'] : Srt w' C ys A := ⟨h.at_.fut, h.rise, h.mem, h.len⟩
theorem Srt.get {w0 w : World} {C : List Nat} {ys : List Int} {A : Option Addr} (h : Srt w0 C ys A) (hf : Fut w0 w) {k : Nat} (hk : k < ys.length) : ∃ b off, A = some ⟨b, off, none⟩ ∧ b < w0.heap.size ∧ ∀ j, j < ys.length → ∃ x, ys[j]? = some x ∧ w.cell? ⟨b, off + j, none⟩ = some (.int .i64 x) := by
  obtain ⟨b, off, hA, hb, hc⟩ := h.at_.elem hf (k := k) (by simpa [intCells] using hk)
  refine ⟨b, off, hA, hb, fun j hj => ?_⟩
  have hs : ys[j]? = some ys[j] := List.getElem?_eq_getElem hj
  have n0 := At.l1 (hc j [.int .i64 ys[j]] (by simp [intCells, hs]))
  simp only [Nat.mul_one] at n0
  exact ⟨ys[j], hs, n0⟩
theorem Srt.nonneg {w : World} {C : List Nat} {ys : List Int} {A : Option Addr} (h : Srt w C ys A) {k : Nat} {x : Int} (hx : ys[k]? = some x) : ∃ c ∈ C, (c : Int) = x := (h.mem x).1 (List.mem_of_getElem? hx)
theorem Srt.top {w : World} {C : List Nat} {ys : List Int} {A : Option Addr} (h : Srt w C ys A) {x : Int} (hx : ys[ys.length - 1]? = some x) : topL C = x := by
  obtain ⟨c, hc, rfl⟩ := h.nonneg hx
  refine top_eq (by omega) (fun c' hc' => ?_) (.inr ⟨c, hc, rfl⟩)
  obtain ⟨j, hj, e⟩ := List.mem_iff_getElem.1 ((h.mem c').2 ⟨c', hc', rfl⟩)
  have hl := (List.getElem?_eq_some_iff.1 hx)
  obtain ⟨hl1, hl2⟩ := hl
  by_cases hjj : j = ys.length - 1
  · subst hjj; rw [← e, hl2]; exact Int.le_refl _
  · have := List.pairwise_iff_getElem.1 h.rise j (ys.length - 1) hj hl1 (by omega)
    omega
theorem Srt.nil_top {w : World} {C : List Nat} {A : Option Addr} (h : Srt w C [] A) : topL C = -1 := by
  cases C with
  | nil => rfl
  | cons c r => exact absurd ((h.mem c).2 ⟨c, List.mem_cons_self, rfl⟩) (by simp)
theorem Srt.before {w : World} {C : List Nat} {ys : List Int} {A : Option Addr} (h : Srt w C ys A) {i j : Nat} {x y : Int} (hi : ys[i]? = some x) (hj : ys[j]? = some y) (hlt : x < y) : i < j := by
  obtain ⟨h1, e1⟩ := List.getElem?_eq_some_iff.1 hi
  obtain ⟨h2, e2⟩ := List.getElem?_eq_some_iff.1 hj
  rcases Nat.lt_trichotomy i j with h3 | h3 | h3
  · exact h3
  · subst h3; omega
  · have := List.pairwise_iff_getElem.1 h.rise j i h2 h1 h3
    omega

set_option maxRecDepth 100000 in
set_option maxHeartbeats 4000000 in
theorem plast_any {w0 : World} (C : List Nat) (ys : List Int) (A : Option Addr) (c : Nat) (w : World) (h : Srt w0 C ys A) [f0 : Fut w0 w] :
    Calls Tryz.prog 26 #[.slice A ys.length c] w fun e w' => e = .returned (.int .i64 (topL C)) ∧ Step w w' := by
  have z0 := f0.below.size
  have hl := h.len
  obtain ⟨R, hR⟩ : ∃ R, topL C = R := ⟨_, rfl⟩
  rw [hR]
  by_cases h0 : ys.length = 0
  · have HE : Hid (R = -1) := by
      show _ = _
      obtain rfl : ys = [] := List.length_eq_zero_iff.1 h0
      rw [← hR]; exact h.nil_top
    rw [h0]
    clear hR h0
    go_enter Tryz.func26, Tryz.ntmps26
    go_wp2_with fail
    go_ret
    exact ⟨by rw [HE.out]; rfl, Step.of⟩
  · obtain ⟨n, hn⟩ : ∃ n, ys.length = n + 1 := ⟨ys.length - 1, by omega⟩
    obtain ⟨b, off, hA, hb, hc⟩ := h.get (w := w) inferInstance (k := n) (by omega)
    obtain ⟨x, hx, p0⟩ := hc n (by omega)
    have HE : Hid (R = x) := by show _ = _; rw [← hR]; exact h.top (by rw [hn]; exact hx)
    have hb0 : (((n : Int) + 1) == 0) = false := beq_eq_false_iff_ne.2 (by omega)
    have hlb : b < w.heap.size := by omega
    rw [hA, hn]
    clear hR h0 hc hx hA
    go_enter Tryz.func26, Tryz.ntmps26
    go_wp2_with fail
    go_ret
    exact ⟨by rw [HE.out]; rfl, Step.of⟩
/-- The search, whether there are any numbers or not. -/
theorem search_any {w0 : World} (C : List Nat) (ys : List Int) (A : Option Addr) (c : Nat) (x : Int) (w : World) (h : Srt w0 C ys A) [f0 : Fut w0 w] :
    Calls Tryz.prog 64 #[.slice A ys.length c, .int .i64 x] w fun e w' => e = .returned (.tuple #[.int .i64 (ys.countP (fun y => decide (y < x)) : Nat), .bool (decide (x ∈ ys))]) ∧ Step w w' := by
  have hl := h.len
  by_cases h0 : ys = []
  · subst h0
    refine (Tryz.slices_BinarySearch_int_empty A c x w).mono ?_
    rintro e w' ⟨rfl, rfl⟩
    exact ⟨rfl, Step.of⟩
  · obtain ⟨b, off, rfl, hb, hc⟩ := h.get (w := w) inferInstance (k := 0) (List.length_pos_iff.2 h0)
    have P := Tryz.slices_BinarySearch_int b off ys.length c ys x w (Nat.le_refl _) hl (fun j hj => by
      obtain ⟨y, hy, p⟩ := hc j hj
      rw [p, List.getD_eq_getElem?_getD, hy]
      rfl) (by rw [List.take_length]; exact h.rise.imp (fun h => Int.le_of_lt h))
    rw [List.take_length] at P
    refine P.mono ?_
    rintro e w' ⟨rfl, q, rfl⟩
    refine ⟨?_, ⟨⟨rfl, rfl, rfl, Nat.le_refl _, fun _ _ => rfl⟩⟩⟩
    rw [List.contains_eq_mem]

set_option maxRecDepth 100000 in
set_option maxHeartbeats 4000000 in
theorem pwhole_any {w0 : World} (C : List Nat) (ys : List Int) (A : Option Addr) (c : Nat) (zs : List Int) (A2 : Option Addr) (c2 : Nat) (lo tp : Int) (w : World) (h : Srt w0 C ys A) (hlo : -1 ≤ lo) (hto : tp ≤ 4611686018427387904) (hlo2 : lo ≤ 4611686018427387904) (hz : -1 ≤ tp) [f0 : Fut w0 w] :
    Calls Tryz.prog 44 #[.agg #[.slice A ys.length c, .slice A2 zs.length c2], .int .i64 lo, .int .i64 tp] w fun e w' => e = .returned (.bool (wholeL C lo tp)) ∧ Step w w' := by
  have z0 := f0.below.size
  have hl := h.len
  obtain ⟨R, hR⟩ : ∃ R, wholeL C lo tp = R := ⟨_, rfl⟩
  rw [hR]
  obtain ⟨W, hW⟩ : ∃ W, W = w.alloc (.cells #[.slice A ys.length c, .slice A2 zs.length c2] 56) := ⟨_, rfl⟩
  have SW : Step w W := by rw [hW]; exact Step.of
  have HB : Hid (Blk W w.heap.size 56 [.slice A ys.length c, .slice A2 zs.length c2]) := by rw [hW]; exact Blk.new w [.slice A ys.length c, .slice A2 zs.length c2] 56
  have HW := hide hW
  clear hW
  by_cases hlt : tp ≤ lo
  · have HE : Hid (R = true) := by show _ = _; rw [← hR, wholeL_iff]; exact fun v h1 h2 => by omega
    clear hR
    go_enter Tryz.func44, Tryz.ntmps44
    go_wp2_with fail
    go_ret
    exact ⟨by rw [HE.out]; rfl, Step.of⟩
  · have hlt2 : lo < tp := by omega
    have hwc := whole_count h.rise h.mem hlt2
    clear hlt2
    rw [hR] at hwc
    have hwc := hwc.symm
    have P1 := fun w' [Fut w0 w'] => search_any C ys A c (lo + 1) w' h
    have P2 := fun w' [Fut w0 w'] => search_any C ys A c tp w' h
    have hc1 : ys.countP (fun y => decide (y < lo + 1)) ≤ ys.length := List.countP_le_length
    have hc2 : ys.countP (fun y => decide (y < tp)) ≤ ys.length := List.countP_le_length
    obtain ⟨a, ha⟩ : ∃ a, ys.countP (fun y => decide (y < lo + 1)) = a := ⟨_, rfl⟩
    obtain ⟨b, hb⟩ : ∃ b, ys.countP (fun y => decide (y < tp)) = b := ⟨_, rfl⟩
    obtain ⟨B, hB⟩ : ∃ B, decide (tp ∈ ys) = B := ⟨_, rfl⟩
    obtain ⟨B1, hB1⟩ : ∃ B, decide (lo + 1 ∈ ys) = B := ⟨_, rfl⟩
    rw [ha] at hwc P1 hc1
    rw [hb] at hwc P2 hc2
    rw [hB] at hwc P2
    rw [hB1] at P1
    have P1 := hide P1; have P2 := hide P2
    clear hR ha hb hB hB1
    have hq := HB.out
    obtain ⟨q0, q1⟩ := At.z2 hq.at0
    have lq := hq.lt
    clear hq
    cases B with
    | false =>
      have HE : Hid (R = false) := by show _ = _; rw [hwc]; rfl
      clear hwc
      go_enter Tryz.func44, Tryz.ntmps44
      go_upto_region 3 with (fail)
      rw [← HW.out]
      go_wp2_with (first | (go_at_call 64; (with_reducible refine (P1.out _).mono ?_); rintro e w3 ⟨rfl, hs3⟩; clear q0 q1 lq; have hq := HB.out.fut (w' := w3); obtain ⟨q0, q1⟩ := At.z2 hq.at0; have lq := hq.lt; clear hq) | (go_at_call 64; (with_reducible refine (P2.out _).mono ?_); rintro e w4 ⟨rfl, hs4⟩))
      go_ret
      exact ⟨by rw [HE.out]; rfl, Step.of⟩
    | true =>
      rw [Bool.true_and] at hwc
      by_cases heq : (b : Int) - (a : Int) = tp - lo - 1
      · have HE : Hid (R = true) := by show _ = _; rw [hwc]; exact decide_eq_true heq
        have hx : (((b : Int) - (a : Int)) == (tp - lo - 1)) = true := beq_iff_eq.2 heq
        clear hwc heq
        go_enter Tryz.func44, Tryz.ntmps44
        go_upto_region 3 with (fail)
        rw [← HW.out]
        go_wp2_with (first | (go_at_call 64; (with_reducible refine (P1.out _).mono ?_); rintro e w3 ⟨rfl, hs3⟩; clear q0 q1 lq; have hq := HB.out.fut (w' := w3); obtain ⟨q0, q1⟩ := At.z2 hq.at0; have lq := hq.lt; clear hq) | (go_at_call 64; (with_reducible refine (P2.out _).mono ?_); rintro e w4 ⟨rfl, hs4⟩))
        go_ret
        exact ⟨by rw [HE.out]; rfl, Step.of⟩
      · have HE : Hid (R = false) := by show _ = _; rw [hwc]; exact decide_eq_false heq
        have hx : (((b : Int) - (a : Int)) == (tp - lo - 1)) = false := beq_eq_false_iff_ne.2 heq
        clear hwc heq
        go_enter Tryz.func44, Tryz.ntmps44
        go_upto_region 3 with (fail)
        rw [← HW.out]
        go_wp2_with (first | (go_at_call 64; (with_reducible refine (P1.out _).mono ?_); rintro e w3 ⟨rfl, hs3⟩; clear q0 q1 lq; have hq := HB.out.fut (w' := w3); obtain ⟨q0, q1⟩ := At.z2 hq.at0; have lq := hq.lt; clear hq) | (go_at_call 64; (with_reducible refine (P2.out _).mono ?_); rintro e w4 ⟨rfl, hs4⟩))
        go_ret
        exact ⟨by rw [HE.out]; rfl, Step.of⟩

set_option maxRecDepth 100000 in
set_option maxHeartbeats 4000000 in
theorem pfloor_any {w0 : World} (C K : List Nat) (ys : List Int) (A : Option Addr) (c : Nat) (zs : List Int) (A2 : Option Addr) (c2 : Nat) (tp : Int) (w : World) (h : Srt w0 C ys A) (k : Srt w0 K zs A2) (hto : tp ≤ 2147483647) (hz : -1 ≤ tp) [f0 : Fut w0 w] :
    Calls Tryz.prog 27 #[.agg #[.slice A ys.length c, .slice A2 zs.length c2], .int .i64 tp] w fun e w' => e = .returned (.tuple #[.int .i64 (floorR C K tp).1, .bool (floorR C K tp).2]) ∧ Step w w' := by
  have z0 := f0.below.size
  have hl := k.len
  obtain ⟨R, hR⟩ : ∃ R, floorR C K tp = R := ⟨_, rfl⟩
  rw [hR]
  have HR := hide hR
  obtain ⟨W, hW⟩ : ∃ W, W = w.alloc (.cells #[.slice A ys.length c, .slice A2 zs.length c2] 56) := ⟨_, rfl⟩
  have SW : Step w W := by rw [hW]; exact Step.of
  have HB : Hid (Blk W w.heap.size 56 [.slice A ys.length c, .slice A2 zs.length c2]) := by rw [hW]; exact Blk.new w [.slice A ys.length c, .slice A2 zs.length c2] 56
  have HW := hide hW
  have hzW := SW.size
  clear hW hR
  have PW := hide (fun lo w' (h1 : -1 ≤ lo) (h2 : lo ≤ 4611686018427387904) [Fut w0 w'] => pwhole_any C ys A c zs A2 c2 lo tp w' h h1 (by omega) h2 hz)
  go_enter Tryz.func27, Tryz.ntmps27
  go_wp2_with fail
  rw [← HW.out]
  go_loopw [6, 7] (fun i _ wr => ∃ n : Nat, n ≤ zs.length ∧ i = .int .i64 ((n : Int) - 1) ∧ Hid (∀ j x, n ≤ j → zs[j]? = some x → x ≤ tp → wholeL C x tp = false) ∧ Step W wr) (fun i _ _ => (intOf i + 1).toNat)
  case atStart => exact ⟨zs.length, Nat.le_refl _, rfl, fun j x h1 h2 => by have := (List.getElem?_eq_some_iff.1 h2).1; omega, Step.of⟩
  case round =>
    obtain ⟨n, hn, rfl, HN, hst⟩ := hrel
    obtain ⟨wo, rfl⟩ : ∃ x : World, x = wr := ⟨_, rfl⟩
    have hzo := hst.size
    have hq := HB.out.fut (w' := wo)
    by_cases hlt : 0 < n
    · obtain ⟨m, rfl⟩ : ∃ m, n = m + 1 := ⟨n - 1, by omega⟩
      obtain ⟨b, off, hA, hb, hc⟩ := k.get (w := wo) inferInstance (k := m) (by omega)
      obtain ⟨x, hx, p0⟩ := hc m (by omega)
      obtain ⟨cx, hcx, hcxe⟩ := k.nonneg hx
      rw [hA] at hq
      have HA := hide hA
      obtain ⟨q0, q1⟩ := At.z2 hq.at0
      have lq := hq.lt
      have lb : b < wo.heap.size := by omega
      have hmz : (m : Int) < (zs.length : Int) := by omega
      have hm0 : (0 : Int) ≤ (m : Int) := by omega
      clear hc hq hA
      by_cases hxt : x ≤ tp
      · have PX := fun w' [Fut w0 w'] => PW.out x w' (by omega) (by omega)
        cases hh : wholeL C x tp with
        | true =>
          rw [hh, HA.out] at PX
          have PX := hide PX
          have HE : Hid (R = (x, true)) := by
            show _ = _
            rw [← HR.out, ← hcxe]
            rw [← hcxe] at hh hxt
            refine floor_hit hcx hxt hh fun k2 hk2 h1 h2 => ?_
            obtain ⟨j, hj⟩ := List.mem_iff_getElem?.1 ((k.mem k2).2 ⟨k2, hk2, rfl⟩)
            exact HN.out j k2 (k.before hx hj (by omega)) hj h2
          clear hh hcx hcxe hx
          go_wp2_with (go_at_call 44; (with_reducible refine (PX.out _).mono ?_); rintro e w3 ⟨rfl, hs3⟩)
          go_ret2
          exact ⟨by rw [HE.out]; rfl, Step.of⟩
        | false =>
          rw [hh, HA.out] at PX
          have PX := hide PX
          have HN2 : Hid (∀ j y, m ≤ j → zs[j]? = some y → y ≤ tp → wholeL C y tp = false) := fun j y h1 h2 h3 => by
            by_cases e : j = m
            · subst e; rw [hx] at h2; injection h2 with h2; subst h2; exact hh
            · exact HN.out j y (by omega) h2 h3
          clear hh hcx hcxe hx
          go_wp2_with (go_at_call 44; (with_reducible refine (PX.out _).mono ?_); rintro e w3 ⟨rfl, hs3⟩)
          go_roundw
          case rel => exact ⟨m, by omega, by go_num, HN2.out, Step.of⟩
          case measure => simp [intOf]
      · have HN2 : Hid (∀ j y, m ≤ j → zs[j]? = some y → y ≤ tp → wholeL C y tp = false) := fun j y h1 h2 h3 => by
          by_cases e : j = m
          · subst e; rw [hx] at h2; injection h2 with h2; subst h2; exact absurd h3 hxt
          · exact HN.out j y (by omega) h2 h3
        clear hcx hcxe hx
        go_wp2_with fail
        go_roundw
        case rel => exact ⟨m, by omega, by go_num, HN2.out, Step.of⟩
        case measure => simp [intOf]
    · obtain rfl : n = 0 := by omega
      have PX := hide (fun w' [Fut w0 w'] => PW.out (-1) w' (by decide) (by decide))
      have HE : Hid (R = (-1, wholeL C (-1) tp)) := by
        show _ = _
        rw [← HR.out]
        refine floor_miss fun k2 hk2 h2 => ?_
        obtain ⟨j, hj⟩ := List.mem_iff_getElem?.1 ((k.mem k2).2 ⟨k2, hk2, rfl⟩)
        exact HN.out j k2 (Nat.zero_le _) hj h2
      obtain ⟨q0, q1⟩ := At.z2 hq.at0
      have lq := hq.lt
      clear hq
      go_wp2_with (go_at_call 44; (with_reducible refine (PX.out _).mono ?_); rintro e w3 ⟨rfl, hs3⟩)
      go_ret2
      exact ⟨by rw [HE.out]; rfl, Step.of⟩
end Go.Proofs.YtlcimfabimfekaaGreatDoor
