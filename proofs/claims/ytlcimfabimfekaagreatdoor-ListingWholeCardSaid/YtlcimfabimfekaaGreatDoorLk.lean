/-
  The law Listings: its walk.
-/
import Derived.Test.YtlcimfabimfekaaGreatDoorLj
import Derived.Laws.MakeOwn
namespace Go.Proofs.YtlcimfabimfekaaGreatDoor
open Go.RowKit

theorem eiStr : EI Tryz.prog 31 9 1 16 :=
  ⟨Tryz.underlying31, info_parts (show (Tryz.prog.info? 9).map (fun i => (i.zero, i.size, i.bytes)) = some (some (.string .empty), 1, 16) by kernel_rfl) |>.elim fun i h => ⟨i, _, h.1, h.2.1, h.2.2.1, h.2.2.2, rfl⟩, by decide, by decide⟩
theorem str_fit (l : List ByteArray) : Fit 1 (strCells l) := Fit.map (f := fun s : ByteArray => [Value.string s]) (fun s => ⟨rfl, fun u hu => by simp at hu; rw [hu]; rfl⟩) l
/-- make([]string, 0, n + 1). -/
theorem made_strs (n : Nat) (hn : n ≤ 8796093021952) : ∃ O : Obj, (∀ w : World, (Instr.makeSlice 31 (.int .i64 0) (.int .i64 ((n : Int) + 1))).run Tryz.prog w = .ok (.slice (some ⟨w.heap.size, 0, none⟩) 0 (n + 1)) (w.alloc O)) ∧ ∀ w : World, Own (w.alloc O) w.heap.size 9 1 (.slice (some ⟨w.heap.size, 0, none⟩) 0 (n + 1)) [] := by
  obtain ⟨ht, ⟨i, z, hi, hz, hs, hby, hzs⟩, _, _⟩ := eiStr
  refine ⟨.cells (madeCells z.cells ((n + 1) * i.size)) 9, fun w => ?_, fun w => ?_⟩
  · have hr := run_make (P := Tryz.prog) w 31 9 i z ht hi hz .i64 .i64 0 ((n : Int) + 1) (by omega) (by omega) (by rw [hby]; omega) (by omega)
    rw [show ((n : Int) + 1).toNat = n + 1 by omega] at hr
    exact hr
  · rw [hs]
    exact World.ownsRow_made w _ (n + 1) (Nat.le_refl _) (by simp only [maxLen]; omega) (size_madeCells _ _)

set_option maxRecDepth 100000 in
set_option maxHeartbeats 4000000 in
theorem sameTexts_any {w1 w2 : World} (ks : List ByteArray) (A1 A2 : Option Addr) (c1 c2 : Nat) (w : World) (h1 : KeysIn w1 ks A1) (h2 : KeysIn w2 ks A2) [f1 : Fut w1 w] [f2 : Fut w2 w] :
    Calls Tryz.prog 18 #[.slice A1 ks.length c1, .slice A2 ks.length c2] w fun e w' => e = .returned (.bool true) ∧ Step w w' := by
  have z1 := f1.below.size; have z2 := f2.below.size
  have hl := h1.len
  go_enter Tryz.func18, Tryz.ntmps18
  go_wp2_with fail
  go_loopw [5] (fun i wr => ∃ k : Nat, k ≤ ks.length ∧ i = .int .i64 k ∧ Step w wr) (fun i _ => ks.length - (intOf i).toNat)
  case atStart => exact ⟨0, Nat.zero_le _, rfl, Step.of⟩
  case round =>
    obtain ⟨k, hk, rfl, hst⟩ := hrel
    obtain ⟨wo, rfl⟩ : ∃ x : World, x = wr := ⟨_, rfl⟩
    have hzo := hst.size
    by_cases hlt : k < ks.length
    · obtain ⟨b, off, s, hA, hb, hks, hss, p0⟩ := h1.key (w := wo) inferInstance hlt
      obtain ⟨b', off', s', hA', hb', hks', _, p0'⟩ := h2.key (w := wo) inferInstance hlt
      obtain rfl : s = s' := by rw [hks] at hks'; exact Option.some.inj hks'
      rw [hA, hA']
      have hkl : (k : Int) < (ks.length : Int) := by omega
      have hk0 : (0 : Int) ≤ (k : Int) := by omega
      have hlb : b < wo.heap.size := by omega
      have hlb' : b' < wo.heap.size := by omega
      clear hA hA' hks hks'
      go_wp2_with fail
      go_quiet (fail)
      go_wp2_with fail
      go_roundw
      case rel => exact ⟨k + 1, by omega, by go_num, Step.of⟩
      case measure => simp [intOf]; omega
    · obtain rfl : k = ks.length := by omega
      go_wp2_with fail
      go_ret
      exact ⟨rfl, Step.of⟩

set_option maxRecDepth 100000 in
set_option maxHeartbeats 16000000 in
theorem listings_any (ks : List ByteArray) (A : Option Addr) (cap : Nat) (v : Int) (w : World) (h : KeysIn w ks A) (hl : ks.length ≤ 8796093021952) (hv : -9223372036854775808 ≤ v ∧ v ≤ 9223372036854775807) (ht : Tab w) :
    Calls Tryz.prog 5 #[.slice A ks.length cap, .int .i64 v] w fun e w' => e = .returned (.bool true) ∧ Step w w' := by
  obtain ⟨OBJ, hmk, hmo⟩ := made_strs ks.length hl
  have HMO := hide hmo
  clear hmo
  obtain ⟨sz, hsz⟩ : ∃ sz, sz = w.heap.size := ⟨_, rfl⟩
  go_enter Tryz.func5, Tryz.ntmps5
  go_wp2_with (at_builtin; have HOW := hide (HMO.out w); have HRd := hide (h.at_.fut (w' := w.alloc OBJ)); go_loud (refine wpList_append_sl rfl (.tmp 30) (.tmp 31) 31 rfl eiStr (base := w.heap.size) (xs := []) rfl HOW.out Fit.nil_ (ys := strCells ks) rfl (by simp [strCells]) HRd.out (str_fit ks) (by simp [strCells]; omega) (fut w (w.alloc OBJ)).size (N := ks.length) (by simp [strCells]) ?_; intro A2 c2 w2 hc1 hc2 hown2 hgr2 hbel2; have HX := hide hown2; have hs2 : Step w w2 := ⟨(fut w (w.alloc OBJ)).trans hbel2⟩; clear hown2 hgr2 hbel2))
  clear hsz hmk HMO
  have HKX : Hid (KeysIn w2 ks A2) := by
    have q := HX.out.sl (by simpa using (str_fit ks).len)
    rw [List.nil_append] at q
    exact ⟨q, h.len, h.size⟩
  clear HX
  have hz2 := hs2.size
  go_loopw [6, 7, 8, 9, 10] (fun i _ _ _ _ wr => ∃ k : Nat, k ≤ ks.length ∧ i = .int .i64 k ∧ Step w2 wr) (fun i _ _ _ _ _ => ks.length - (intOf i).toNat)
  case atStart => exact ⟨0, Nat.zero_le _, rfl, Step.of⟩
  case round =>
    obtain ⟨k, hk, rfl, hst⟩ := hrel
    obtain ⟨wo, rfl⟩ : ∃ x : World, x = wr := ⟨_, rfl⟩
    have hzo := hst.size
    by_cases hlt : k < ks.length
    · obtain ⟨b, off, s, hA, hb, hks, hss, p0⟩ := h.key (w := wo) inferInstance hlt
      rw [hA]
      have hkl : (k : Int) < (ks.length : Int) := by omega
      have hk0 : (0 : Int) ≤ (k : Int) := by omega
      have hlb : b < wo.heap.size := by omega
      have PV := fun w' => pver_any s w' hss
      have RV := fun w' => rver_any s w' hss
      have HK := hide (fun w' [Fut w w'] => (show w'.cell? ⟨b, off + k, none⟩ = some (.string s) by
        obtain ⟨b', off', s', hA', _, hks', _, p0'⟩ := h.key (w := w') inferInstance hlt
        rw [hA] at hA'; rw [hks] at hks'
        cases hA'; cases hks'
        exact p0'))
      obtain ⟨V, hV⟩ : ∃ V, verV s = V := ⟨_, rfl⟩
      rw [hV] at PV RV
      have PV := hide PV; have RV := hide RV
      obtain ⟨x, c⟩ := V
      clear hA hks hV
      cases c
      all_goals
        go_wp2_with (first
          | (go_at_call 11; (with_reducible refine (PV.out _).mono ?_); rintro e w5 ⟨rfl, hs5⟩; clear p0 hlb; have p0 := HK.out w5; have hlb : b < w5.heap.size := (by have := (fut wo w5).size; omega))
          | (go_at_call 13; (with_reducible refine (RV.out _).mono ?_); rintro e w6 ⟨rfl, hs6⟩))
        go_roundw
        case rel => exact ⟨k + 1, by omega, by go_num, Step.of⟩
        case measure => simp [intOf]; omega
    · obtain rfl : k = ks.length := by omega
      have AW := hide (fun w' [Fut w w'] => awake22_any w' ht)
      have L1 := fun w' [Fut w2 w'] => platest_any ks A2 c2 w' HKX.out (by omega)
      have L2 := fun w' [Fut w w'] => rlatest_any ks A cap w' h
      have F1 := fun w' [Fut w2 w'] => pfrom_any ks A2 c2 v w' HKX.out (by omega)
      have F2 := fun w' [Fut w w'] => rfrom_any ks A cap v w' h
      have K1 := fun w' [Fut w w'] => pkey_any v w' hv ht
      have K2 := fun w' => rkey_any v false w' hv
      have C1 := fun w' [Fut w w'] => pcheck_any v w' hv ht
      have C2 := fun w' => rkey_any v true w' hv
      have SM := hide (fun w' [Fut w w'] [Fut w2 w'] => sameTexts_any ks A2 A c2 cap w' HKX.out h)
      obtain ⟨LR, hLR⟩ : ∃ LR, latestR (versL false ks) (versL true ks) = LR := ⟨_, rfl⟩
      obtain ⟨FR, hFR⟩ : ∃ FR, fromR (versL false ks) (versL true ks) v = FR := ⟨_, rfl⟩
      obtain ⟨ks0, h0⟩ : ∃ x, keyS v false = x := ⟨_, rfl⟩
      obtain ⟨ks1, h1⟩ : ∃ x, keyS v true = x := ⟨_, rfl⟩
      obtain ⟨ke, h2⟩ : ∃ x, keyE v = x := ⟨_, rfl⟩
      rw [hLR] at L1 L2
      rw [hFR] at F1 F2
      rw [h0, h2] at K1 K2
      rw [h1, h2] at C1 C2
      have L1 := hide L1; have L2 := hide L2; have F1 := hide F1; have F2 := hide F2; have K1 := hide K1; have K2 := hide K2; have C1 := hide C1; have C2 := hide C2
      clear hLR hFR h0 h1 h2
      obtain ⟨l1, l2⟩ := LR
      obtain ⟨g1, g2⟩ := FR
      go_wp2_with (first
        | (go_at_call 12; (with_reducible refine (L1.out _).mono ?_); rintro e w7 ⟨rfl, hs7⟩)
        | (go_at_call 14; (with_reducible refine (L2.out _).mono ?_); rintro e w8 ⟨rfl, hs8⟩)
        | (go_at_call 15; (with_reducible refine (F1.out _).mono ?_); rintro e w9 ⟨rfl, hs9⟩)
        | (go_at_call 16; (with_reducible refine (F2.out _).mono ?_); rintro e w10 ⟨rfl, hs10⟩)
        | (go_at_call 8; (with_reducible refine (K1.out _).mono ?_); rintro e w11 ⟨rfl, hs11⟩)
        | (go_at_call 17; (with_reducible refine (K2.out _).mono ?_); rintro e w12 ⟨rfl, hs12⟩)
        | (go_at_call 9; (with_reducible refine (C1.out _).mono ?_); rintro e w13 ⟨rfl, hs13⟩)
        | (go_at_call 17; (with_reducible refine (C2.out _).mono ?_); rintro e w14 ⟨rfl, hs14⟩)
        | (go_at_call 10; refine (num_any _ _).mono ?_; rintro e w' ⟨rfl, rfl⟩)
        | (go_at_call 18; (with_reducible refine (SM.out _).mono ?_); rintro e w15 ⟨rfl, hs15⟩)
        | (go_at_call 7; (with_reducible refine (AW.out _).mono ?_); rintro e w16 ⟨rfl, hs16⟩))
      go_ret
      exact ⟨rfl, Step.of⟩
end Go.Proofs.YtlcimfabimfekaaGreatDoor
