/-
  The document's latest version, and the one to begin from.
-/
import Derived.Test.YtlcimfabimfekaaGreatDoorLb
namespace Go.Proofs.YtlcimfabimfekaaGreatDoor
open Go.RowKit

/-- The highest one at most so high. -/
def upto (K : List Nat) (top : Int) : Int := topL (K.filter fun c => decide ((c : Int) ≤ top))
theorem topL_app (l : List Nat) (v : Nat) : topL (l ++ [v]) = max (topL l) (v : Int) := by
  induction l with
  | nil => simp [topL]; omega
  | cons x r ih => rw [List.cons_append, topL, ih, topL]; omega
theorem upto_app (K : List Nat) (top : Int) (v : Nat) : upto (K ++ [v]) top = if (v : Int) ≤ top then max (upto K top) (v : Int) else upto K top := by
  unfold upto
  rw [List.filter_append]
  by_cases h : (v : Int) ≤ top
  · simp only [List.filter_cons, List.filter_nil, h, decide_true, if_true]
    exact topL_app _ _
  · simp [h]
theorem upto_ge (K : List Nat) (top : Int) : -1 ≤ upto K top ∧ ∀ c ∈ K, (c : Int) ≤ top → (c : Int) ≤ upto K top :=
  ⟨(topL_ge _).1, fun c hc h => (topL_ge _).2 c (List.mem_filter.2 ⟨hc, by simpa using h⟩)⟩
theorem upto_mem (K : List Nat) (top : Int) : upto K top = -1 ∨ ∃ c ∈ K, (c : Int) ≤ top ∧ upto K top = (c : Int) := by
  rcases topL_mem (K.filter fun c => decide ((c : Int) ≤ top)) with e | ⟨c, hc, e⟩
  · exact .inl e
  · obtain ⟨h1, h2⟩ := List.mem_filter.1 hc
    exact .inr ⟨c, h1, by simpa using h2, e⟩
theorem upto_all {K : List Nat} (h : ∀ c ∈ K, c ≤ 2147483647) : upto K 2147483647 = topL K := by
  unfold upto
  rw [List.filter_eq_self.2 fun c hc => by have := h c hc; simp; omega]
theorem any_eq {C : List Nat} {v : Int} : (C.any fun c => (c : Int) == v) = true ↔ ∃ c ∈ C, (c : Int) = v := by
  rw [List.any_eq_true]
  exact ⟨fun ⟨c, h1, h2⟩ => ⟨c, h1, eq_of_beq h2⟩, fun ⟨c, h1, h2⟩ => ⟨c, h1, by rw [h2]; exact beq_self_eq_true _⟩⟩

set_option maxRecDepth 100000 in
set_option maxHeartbeats 4000000 in
theorem rhigh_any {w0 : World} (ks : List ByteArray) (A : Option Addr) (cap : Nat) (b : Bool) (top : Int) (w : World) (h : KeysIn w0 ks A) [f0 : Fut w0 w] :
    Calls Tryz.prog 28 #[.slice A ks.length cap, .bool b, .int .i64 top] w fun e w' => e = .returned (.int .i64 (upto (versL b ks) top)) ∧ Step w w' := by
  have z0 := f0.below.size
  have hl := h.len
  obtain ⟨R, hR⟩ : ∃ R, upto (versL b ks) top = R := ⟨_, rfl⟩
  rw [hR]
  have HR := hide hR
  clear hR
  go_enter Tryz.func28, Tryz.ntmps28
  go_wp2_with fail
  go_loopw [7, 8, 9, 10] (fun o i _ _ wr => ∃ (k : Nat) (O : Int), k ≤ ks.length ∧ i = .int .i64 k ∧ o = .int .i64 O ∧ Hid (upto (versL b (ks.take k)) top = O) ∧ Step w wr) (fun _ i _ _ _ => ks.length - (intOf i).toNat)
  case atStart => exact ⟨0, -1, Nat.zero_le _, rfl, rfl, rfl, Step.of⟩
  case round =>
    obtain ⟨k, O, hk, rfl, rfl, HN, hst⟩ := hrel
    obtain ⟨wo, rfl⟩ : ∃ x : World, x = wr := ⟨_, rfl⟩
    have hzo := hst.size
    by_cases hlt : k < ks.length
    · obtain ⟨b2, off, s, hA, hb, hks, hss, n0⟩ := h.key (w := wo) inferInstance hlt
      rw [hA]
      have hkl : (k : Int) < (ks.length : Int) := by omega
      have hk0 : (0 : Int) ≤ (k : Int) := by omega
      have hlb : b2 < wo.heap.size := by omega
      have hbd := ver_bd s
      have PV := hide (fun w' => rver_any s w' hss)
      have HM := hide (versL_more (b := b) hks)
      have HG := hide (upto_ge (versL b (ks.take k)) top)
      obtain ⟨V, hV⟩ : ∃ V, verV s = V := ⟨_, rfl⟩
      rw [hV] at PV HM hbd
      obtain ⟨x, c⟩ := V
      have hx0 : -1 ≤ O := by have := HG.out.1; rw [HN.out] at this; exact this
      clear hA hks hV
      by_cases h1 : x > O
      · by_cases h2 : x ≤ top
        · by_cases h3 : c = b
          · subst h3
            have HN2 : Hid (upto (versL c (ks.take (k + 1))) top = x) := by
              show _ = _
              rcases HM.out with ⟨y, e1, e2⟩ | ⟨e1, _⟩
              · obtain ⟨e3, _⟩ := Prod.mk.inj e1
                rw [e2, upto_app, HN.out, if_pos (by omega)]
                omega
              · rcases e1 with e1 | e1
                · have e1 : x < 0 := e1; omega
                · exact absurd rfl e1
            cases c
            all_goals
              go_wp2_with (go_at_call 13; (with_reducible refine (PV.out _).mono ?_); rintro e w5 ⟨rfl, hs5⟩)
              go_roundw
              case rel => exact ⟨k + 1, x, by omega, by go_num, rfl, HN2.out, Step.of⟩
              case measure => simp [intOf]; omega
          · have HN2 : Hid (upto (versL b (ks.take (k + 1))) top = O) := by
              show _ = _
              rcases HM.out with ⟨y, e1, e2⟩ | ⟨_, e2⟩
              · exact absurd (Prod.mk.inj e1).2 h3
              · rw [e2]; exact HN.out
            have g2 : (c == b) = false := beq_eq_false_iff_ne.2 h3
            clear h3
            go_wp2_with (go_at_call 13; (with_reducible refine (PV.out _).mono ?_); rintro e w5 ⟨rfl, hs5⟩)
            go_roundw
            case rel => exact ⟨k + 1, O, by omega, by go_num, rfl, HN2.out, Step.of⟩
            case measure => simp [intOf]; omega
        · have HN2 : Hid (upto (versL b (ks.take (k + 1))) top = O) := by
            show _ = _
            rcases HM.out with ⟨y, e1, e2⟩ | ⟨_, e2⟩
            · obtain ⟨e3, _⟩ := Prod.mk.inj e1
              rw [e2, upto_app, if_neg (by omega)]; exact HN.out
            · rw [e2]; exact HN.out
          go_wp2_with (go_at_call 13; (with_reducible refine (PV.out _).mono ?_); rintro e w5 ⟨rfl, hs5⟩)
          go_roundw
          case rel => exact ⟨k + 1, O, by omega, by go_num, rfl, HN2.out, Step.of⟩
          case measure => simp [intOf]; omega
      · have HN2 : Hid (upto (versL b (ks.take (k + 1))) top = O) := by
          show _ = _
          rcases HM.out with ⟨y, e1, e2⟩ | ⟨_, e2⟩
          · obtain ⟨e3, _⟩ := Prod.mk.inj e1
            rw [e2, upto_app, HN.out]
            split <;> omega
          · rw [e2]; exact HN.out
        go_wp2_with (go_at_call 13; (with_reducible refine (PV.out _).mono ?_); rintro e w5 ⟨rfl, hs5⟩)
        go_roundw
        case rel => exact ⟨k + 1, O, by omega, by go_num, rfl, HN2.out, Step.of⟩
        case measure => simp [intOf]; omega
    · obtain rfl : k = ks.length := by omega
      rw [List.take_length] at HN
      go_wp2_with fail
      go_ret
      exact ⟨by rw [← HR.out, HN.out]; rfl, Step.of⟩

set_option maxRecDepth 100000 in
set_option maxHeartbeats 4000000 in
theorem rwhole_any {w0 : World} (ks : List ByteArray) (A : Option Addr) (cap : Nat) (lo to : Int) (w : World) (h : KeysIn w0 ks A) (hlo : -1 ≤ lo) (hto : to ≤ 9223372036854775806) [f0 : Fut w0 w] :
    Calls Tryz.prog 45 #[.slice A ks.length cap, .int .i64 lo, .int .i64 to] w fun e w' => e = .returned (.bool (wholeL (versL false ks) lo to)) ∧ Step w w' := by
  have z0 := f0.below.size
  obtain ⟨R, hR⟩ : ∃ R, wholeL (versL false ks) lo to = R := ⟨_, rfl⟩
  rw [hR]
  have HR := hide hR
  clear hR
  go_enter Tryz.func45, Tryz.ntmps45
  go_wp2_with fail
  go_loopw [7] (fun i wr => ∃ v : Int, v ≤ to ∧ (lo ≤ v ∨ v = to) ∧ i = .int .i64 v ∧ Hid (∀ x : Int, v < x → x ≤ to → ∃ c ∈ versL false ks, (c : Int) = x) ∧ Step w wr) (fun i _ => (intOf i - lo).toNat)
  case atStart => exact ⟨to, Int.le_refl _, .inr rfl, rfl, fun x h1 h2 => by omega, Step.of⟩
  case round =>
    obtain ⟨v, hv1, hv2, rfl, HN, hst⟩ := hrel
    obtain ⟨wo, rfl⟩ : ∃ x : World, x = wr := ⟨_, rfl⟩
    have hzo := hst.size
    by_cases hlt : v > lo
    · have PH := fun w' [Fut w0 w'] => rhas_any ks A cap v false w' h
      cases hh : (versL false ks).any fun c => (c : Int) == v with
      | true =>
        rw [hh] at PH
        have PH := hide PH
        have HN2 : Hid (∀ x : Int, v - 1 < x → x ≤ to → ∃ c ∈ versL false ks, (c : Int) = x) := fun x h1 h2 => by
          by_cases e : x = v
          · rw [e]; exact any_eq.1 hh
          · exact HN.out x (by omega) h2
        clear hh
        go_wp2_with (go_at_call 65; (with_reducible refine (PH.out _).mono ?_); rintro e w5 ⟨rfl, hs5⟩)
        go_roundw
        case rel => exact ⟨v - 1, by omega, .inl (by omega), by go_num, HN2.out, Step.of⟩
        case measure => simp [intOf]; omega
      | false =>
        rw [hh] at PH
        have PH := hide PH
        have HT : Hid (R = false) := by
          show _ = _
          rw [← HR.out]
          cases hw : wholeL (versL false ks) lo to with
          | false => rfl
          | true =>
            have := any_eq.2 (wholeL_iff.1 hw v hlt hv1)
            rw [hh] at this; cases this
        clear hh
        go_wp2_with (go_at_call 65; (with_reducible refine (PH.out _).mono ?_); rintro e w5 ⟨rfl, hs5⟩)
        go_ret
        exact ⟨by rw [HT.out]; rfl, Step.of⟩
    · have HT : Hid (R = true) := by
        show _ = _
        rw [← HR.out, wholeL_iff]
        exact fun x h1 h2 => HN.out x (by omega) h2
      go_wp2_with fail
      go_ret
      exact ⟨by rw [HT.out]; rfl, Step.of⟩

set_option maxRecDepth 100000 in
set_option maxHeartbeats 4000000 in
theorem rbegin_any {w0 : World} (ks : List ByteArray) (A : Option Addr) (cap : Nat) (top : Int) (w : World) (h : KeysIn w0 ks A) (hto : top ≤ 9223372036854775806) [f0 : Fut w0 w] :
    Calls Tryz.prog 29 #[.slice A ks.length cap, .int .i64 top] w fun e w' => e = .returned (.tuple #[.int .i64 (floorR (versL false ks) (versL true ks) top).1, .bool (floorR (versL false ks) (versL true ks) top).2]) ∧ Step w w' := by
  have z0 := f0.below.size
  obtain ⟨R, hR⟩ : ∃ R, floorR (versL false ks) (versL true ks) top = R := ⟨_, rfl⟩
  rw [hR]
  have HR := hide hR
  clear hR
  have PH := hide (fun t w' [Fut w0 w'] => rhigh_any ks A cap true t w' h)
  have PW := hide (fun lo w' (hlo : -1 ≤ lo) [Fut w0 w'] => rwhole_any ks A cap lo top w' h hlo hto)
  obtain ⟨F, hF⟩ : ∃ F, upto (versL true ks) top = F := ⟨_, rfl⟩
  have HF := hide hF
  have P0 := fun w' [Fut w0 w'] => PH.out top w'
  rw [hF] at P0
  have P0 := hide P0
  have hFb : F ≤ 2147483647 := by
    rcases upto_mem (versL true ks) top with e | ⟨c, hc, _, e⟩
    · omega
    · have := versL_bd hc; omega
  have hFg : -1 ≤ F := by have := (upto_ge (versL true ks) top).1; omega
  clear hF
  go_enter Tryz.func29, Tryz.ntmps29
  go_wp2_with (go_at_call 28; (with_reducible refine (P0.out _).mono ?_); rintro e w3 ⟨rfl, hs3⟩)
  go_loopw [6] (fun i wr => ∃ v : Int, v ≤ 2147483647 ∧ -1 ≤ v ∧ i = .int .i64 v ∧ Hid ((v = -1 ∨ ∃ c ∈ versL true ks, (c : Int) ≤ top ∧ v = (c : Int)) ∧ ∀ c ∈ versL true ks, v < (c : Int) → (c : Int) ≤ top → wholeL (versL false ks) c top = false) ∧ Step w wr) (fun i _ => (intOf i + 1).toNat)
  case atStart =>
    refine ⟨F, hFb, hFg, rfl, ⟨?_, fun c hc h1 h2 => ?_⟩, Step.of⟩
    · rw [← HF.out]; exact upto_mem _ _
    · have := (upto_ge (versL true ks) top).2 c hc h2
      rw [HF.out] at this
      omega
  case round =>
    obtain ⟨v, hv1, hv2, rfl, HN, hst⟩ := hrel
    obtain ⟨wo, rfl⟩ : ∃ x : World, x = wr := ⟨_, rfl⟩
    have hzo := hst.size
    by_cases hlt : v ≥ 0
    · have P1 := fun w' [Fut w0 w'] => PW.out v w' hv2
      obtain ⟨c, hc, hct, hcv⟩ : ∃ c ∈ versL true ks, (c : Int) ≤ top ∧ v = (c : Int) := by
        rcases HN.out.1 with e | e
        · omega
        · exact e
      cases hh : wholeL (versL false ks) v top with
      | true =>
        rw [hh] at P1
        have P1 := hide P1
        have HT : Hid (R = (v, true)) := by
          show _ = _
          rw [← HR.out, hcv]
          rw [hcv] at hh
          exact floor_hit hc hct hh fun k hk h1 h2 => HN.out.2 k hk (by omega) h2
        clear hh hcv hc hct
        go_wp2_with (go_at_call 45; (with_reducible refine (P1.out _).mono ?_); rintro e w5 ⟨rfl, hs5⟩)
        go_ret2
        exact ⟨by rw [HT.out]; rfl, Step.of⟩
      | false =>
        rw [hh] at P1
        have P1 := hide P1
        obtain ⟨G, hG⟩ : ∃ G, upto (versL true ks) (v - 1) = G := ⟨_, rfl⟩
        have P2 := fun w' [Fut w0 w'] => PH.out (v - 1) w'
        rw [hG] at P2
        have P2 := hide P2
        have hg := upto_ge (versL true ks) (v - 1)
        rw [hG] at hg
        have hg1 := hg.1
        have hm := upto_mem (versL true ks) (v - 1)
        rw [hG] at hm
        have hGv : G < v := by
          rcases hm with e | ⟨c', _, h1, e⟩ <;> omega
        have HN2 : Hid ((G = -1 ∨ ∃ c ∈ versL true ks, (c : Int) ≤ top ∧ G = (c : Int)) ∧ ∀ c ∈ versL true ks, G < (c : Int) → (c : Int) ≤ top → wholeL (versL false ks) c top = false) := by
          refine ⟨?_, fun k hk h1 h2 => ?_⟩
          · rcases hm with e | ⟨c', h0, h1, e⟩
            · exact .inl e
            · exact .inr ⟨c', h0, by omega, e⟩
          · by_cases h3 : (k : Int) = v
            · rw [h3]; exact hh
            · by_cases h4 : (k : Int) ≤ v - 1
              · have := hg.2 k hk h4; omega
              · exact HN.out.2 k hk (by omega) h2
        clear hh hG hg hm hcv hc hct
        go_wp2_with (first | (go_at_call 45; (with_reducible refine (P1.out _).mono ?_); rintro e w5 ⟨rfl, hs5⟩) | (go_at_call 28; (with_reducible refine (P2.out _).mono ?_); rintro e w6 ⟨rfl, hs6⟩))
        go_roundw
        case rel => exact ⟨G, by omega, hg1, rfl, HN2.out, Step.of⟩
        case measure => simp [intOf]; omega
    · have hv : v = -1 := by omega
      have HT : Hid (R = (-1, wholeL (versL false ks) (-1) top)) := by
        show _ = _
        rw [← HR.out]
        exact floor_miss fun k hk h2 => HN.out.2 k hk (by omega) h2
      have P1 := hide (fun w' [Fut w0 w'] => PW.out (-1) w' (by decide))
      clear hv
      go_wp2_with (go_at_call 45; (with_reducible refine (P1.out _).mono ?_); rintro e w5 ⟨rfl, hs5⟩)
      go_ret2
      exact ⟨by rw [HT.out]; rfl, Step.of⟩
theorem top_split (C K : List Nat) : (topL C < topL K ∧ topR C K = topL K) ∨ (topL K ≤ topL C ∧ topR C K = topL C) := by
  unfold topR
  omega
theorem topL_bd {b : Bool} {ks : List ByteArray} : -1 ≤ topL (versL b ks) ∧ topL (versL b ks) ≤ 2147483647 := by
  refine ⟨(topL_ge _).1, ?_⟩
  rcases topL_mem (versL b ks) with e | ⟨c, hc, e⟩
  · omega
  · have := versL_bd hc; omega
theorem topR_bd (ks : List ByteArray) : -1 ≤ topR (versL false ks) (versL true ks) ∧ topR (versL false ks) (versL true ks) ≤ 2147483647 := by
  have h1 := topL_bd (b := false) (ks := ks); have h2 := topL_bd (b := true) (ks := ks)
  unfold topR
  omega

set_option maxRecDepth 100000 in
set_option maxHeartbeats 4000000 in
theorem rlatest_any {w0 : World} (ks : List ByteArray) (A : Option Addr) (cap : Nat) (w : World) (h : KeysIn w0 ks A) [f0 : Fut w0 w] :
    Calls Tryz.prog 14 #[.slice A ks.length cap] w fun e w' => e = .returned (.tuple #[.int .i64 (latestR (versL false ks) (versL true ks)).1, .int .i64 (latestR (versL false ks) (versL true ks)).2]) ∧ Step w w' := by
  obtain ⟨R, hR⟩ : ∃ R, latestR (versL false ks) (versL true ks) = R := ⟨_, rfl⟩
  rw [hR]
  unfold latestR at hR
  have HR := hide hR
  clear hR
  have hb := topR_bd ks
  have b1 := topL_bd (b := false) (ks := ks); have b2 := topL_bd (b := true) (ks := ks)
  have hsp := top_split (versL false ks) (versL true ks)
  have PH := fun b w' [Fut w0 w'] => rhigh_any ks A cap b 2147483647 w' h
  simp only [upto_all fun c hc => versL_bd hc] at PH
  have PH0 := fun w' [Fut w0 w'] => PH false w'; have PH1 := fun w' [Fut w0 w'] => PH true w'
  have PB := fun w' [Fut w0 w'] => rbegin_any ks A cap (topR (versL false ks) (versL true ks)) w' h (by omega)
  obtain ⟨FL, hFL⟩ : ∃ FL, floorR (versL false ks) (versL true ks) (topR (versL false ks) (versL true ks)) = FL := ⟨_, rfl⟩
  rw [hFL] at HR PB
  obtain ⟨T, hT⟩ : ∃ T, topR (versL false ks) (versL true ks) = T := ⟨_, rfl⟩
  obtain ⟨T0, hT0⟩ : ∃ T, topL (versL false ks) = T := ⟨_, rfl⟩
  obtain ⟨T1, hT1⟩ : ∃ T, topL (versL true ks) = T := ⟨_, rfl⟩
  rw [hT] at HR PB hsp hb
  rw [hT0] at PH0 hsp b1
  rw [hT1] at PH1 hsp b2
  have PH0 := hide PH0; have PH1 := hide PH1; have PB := hide PB
  clear PH hFL hT hT0 hT1
  have HS := hide hsp
  clear hsp
  obtain ⟨f, fb⟩ := FL
  by_cases h0 : T < 0
  · have HT : Hid (R = (0, 2202)) := by show _ = _; rw [← HR.out, if_pos h0]
    rcases HS.out with ⟨s1, rfl⟩ | ⟨s1, rfl⟩
    all_goals
      go_enter Tryz.func14, Tryz.ntmps14
      go_wp2_with (first | (go_at_call 28; (with_reducible refine (PH0.out _).mono ?_); rintro e w3 ⟨rfl, hs3⟩) | (go_at_call 28; (with_reducible refine (PH1.out _).mono ?_); rintro e w4 ⟨rfl, hs4⟩))
      go_ret2
      exact ⟨by rw [HT.out]; rfl, Step.of⟩
  · cases fb with
    | true =>
      have HT : Hid (R = (T, 0)) := by show _ = _; rw [← HR.out, if_neg h0]; rfl
      rcases HS.out with ⟨s1, rfl⟩ | ⟨s1, rfl⟩
      all_goals
        go_enter Tryz.func14, Tryz.ntmps14
        go_wp2_with (first | (go_at_call 28; (with_reducible refine (PH0.out _).mono ?_); rintro e w3 ⟨rfl, hs3⟩) | (go_at_call 28; (with_reducible refine (PH1.out _).mono ?_); rintro e w4 ⟨rfl, hs4⟩) | (go_at_call 29; (with_reducible refine (PB.out _).mono ?_); rintro e w5 ⟨rfl, hs5⟩))
        go_ret2
        exact ⟨by rw [HT.out]; rfl, Step.of⟩
    | false =>
      have HT : Hid (R = (0, 2201)) := by show _ = _; rw [← HR.out, if_neg h0]; rfl
      rcases HS.out with ⟨s1, rfl⟩ | ⟨s1, rfl⟩
      all_goals
        go_enter Tryz.func14, Tryz.ntmps14
        go_wp2_with (first | (go_at_call 28; (with_reducible refine (PH0.out _).mono ?_); rintro e w3 ⟨rfl, hs3⟩) | (go_at_call 28; (with_reducible refine (PH1.out _).mono ?_); rintro e w4 ⟨rfl, hs4⟩) | (go_at_call 29; (with_reducible refine (PB.out _).mono ?_); rintro e w5 ⟨rfl, hs5⟩))
        go_ret2
        exact ⟨by rw [HT.out]; rfl, Step.of⟩

set_option maxRecDepth 100000 in
set_option maxHeartbeats 4000000 in
theorem rfrom_any {w0 : World} (ks : List ByteArray) (A : Option Addr) (cap : Nat) (v : Int) (w : World) (h : KeysIn w0 ks A) [f0 : Fut w0 w] :
    Calls Tryz.prog 16 #[.slice A ks.length cap, .int .i64 v] w fun e w' => e = .returned (.tuple #[.int .i64 (fromR (versL false ks) (versL true ks) v).1, .int .i64 (fromR (versL false ks) (versL true ks) v).2]) ∧ Step w w' := by
  obtain ⟨R, hR⟩ : ∃ R, fromR (versL false ks) (versL true ks) v = R := ⟨_, rfl⟩
  rw [hR]
  unfold fromR at hR
  have HR := hide hR
  clear hR
  have hb := topR_bd ks
  have b1 := topL_bd (b := false) (ks := ks); have b2 := topL_bd (b := true) (ks := ks)
  have hsp := top_split (versL false ks) (versL true ks)
  have PH := fun b w' [Fut w0 w'] => rhigh_any ks A cap b 2147483647 w' h
  simp only [upto_all fun c hc => versL_bd hc] at PH
  have PH0 := fun w' [Fut w0 w'] => PH false w'; have PH1 := fun w' [Fut w0 w'] => PH true w'
  have PB := fun (hv : v ≤ 9223372036854775806) w' [Fut w0 w'] => rbegin_any ks A cap v w' h hv
  obtain ⟨FL, hFL⟩ : ∃ FL, floorR (versL false ks) (versL true ks) v = FL := ⟨_, rfl⟩
  rw [hFL] at HR PB
  obtain ⟨T, hT⟩ : ∃ T, topR (versL false ks) (versL true ks) = T := ⟨_, rfl⟩
  obtain ⟨T0, hT0⟩ : ∃ T, topL (versL false ks) = T := ⟨_, rfl⟩
  obtain ⟨T1, hT1⟩ : ∃ T, topL (versL true ks) = T := ⟨_, rfl⟩
  rw [hT] at HR hsp hb
  rw [hT0] at PH0 hsp b1
  rw [hT1] at PH1 hsp b2
  have PH0 := hide PH0; have PH1 := hide PH1
  clear PH hFL hT hT0 hT1
  have HS := hide hsp
  clear hsp
  obtain ⟨f, fb⟩ := FL
  by_cases h0 : v < 0
  · have HT : Hid (R = (0, 2200)) := by show _ = _; rw [← HR.out, if_pos h0]
    rcases HS.out with ⟨s1, rfl⟩ | ⟨s1, rfl⟩
    all_goals
      go_enter Tryz.func16, Tryz.ntmps16
      go_wp2_with (first | (go_at_call 28; (with_reducible refine (PH0.out _).mono ?_); rintro e w3 ⟨rfl, hs3⟩) | (go_at_call 28; (with_reducible refine (PH1.out _).mono ?_); rintro e w4 ⟨rfl, hs4⟩))
      go_ret2
      exact ⟨by rw [HT.out]; rfl, Step.of⟩
  by_cases h1 : T < v
  · have HT : Hid (R = (0, 2202)) := by show _ = _; rw [← HR.out, if_neg h0, if_pos h1]
    rcases HS.out with ⟨s1, rfl⟩ | ⟨s1, rfl⟩
    all_goals
      go_enter Tryz.func16, Tryz.ntmps16
      go_wp2_with (first | (go_at_call 28; (with_reducible refine (PH0.out _).mono ?_); rintro e w3 ⟨rfl, hs3⟩) | (go_at_call 28; (with_reducible refine (PH1.out _).mono ?_); rintro e w4 ⟨rfl, hs4⟩))
      go_ret2
      exact ⟨by rw [HT.out]; rfl, Step.of⟩
  have PB := hide (fun w' [Fut w0 w'] => PB (by omega) w')
  cases fb with
  | true =>
    have HT : Hid (R = (f, 0)) := by show _ = _; rw [← HR.out, if_neg h0, if_neg h1]; rfl
    rcases HS.out with ⟨s1, rfl⟩ | ⟨s1, rfl⟩
    all_goals
      go_enter Tryz.func16, Tryz.ntmps16
      go_wp2_with (first | (go_at_call 28; (with_reducible refine (PH0.out _).mono ?_); rintro e w3 ⟨rfl, hs3⟩) | (go_at_call 28; (with_reducible refine (PH1.out _).mono ?_); rintro e w4 ⟨rfl, hs4⟩) | (go_at_call 29; (with_reducible refine (PB.out _).mono ?_); rintro e w5 ⟨rfl, hs5⟩))
      go_ret2
      exact ⟨by rw [HT.out]; rfl, Step.of⟩
  | false =>
    have HT : Hid (R = (0, 2201)) := by show _ = _; rw [← HR.out, if_neg h0, if_neg h1]; rfl
    rcases HS.out with ⟨s1, rfl⟩ | ⟨s1, rfl⟩
    all_goals
      go_enter Tryz.func16, Tryz.ntmps16
      go_wp2_with (first | (go_at_call 28; (with_reducible refine (PH0.out _).mono ?_); rintro e w3 ⟨rfl, hs3⟩) | (go_at_call 28; (with_reducible refine (PH1.out _).mono ?_); rintro e w4 ⟨rfl, hs4⟩) | (go_at_call 29; (with_reducible refine (PB.out _).mono ?_); rintro e w5 ⟨rfl, hs5⟩))
      go_ret2
      exact ⟨by rw [HT.out]; rfl, Step.of⟩
end Go.Proofs.YtlcimfabimfekaaGreatDoor
