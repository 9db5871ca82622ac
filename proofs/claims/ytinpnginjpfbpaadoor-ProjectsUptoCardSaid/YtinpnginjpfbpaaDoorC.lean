import Derived.Test.YtinpnginjpfbpaaDoorB
namespace Go.Proofs.YtinpnginjpfbpaaDoor
open Go.RowKit

def Sch.val (s : Sch) (A : Option Addr) (cap : Nat) : Value := .agg #[.int .i64 s.id, .slice A s.cols.length cap, .int .i64 s.next]

set_option maxHeartbeats 400000 in
theorem may_head (s : Sch) (A : Option Addr) (cap : Nat) (w : World) (hB : s.cols.length ≤ 4611686018427387904) (hH : ¬ headOk s) :
    Calls Tryd.prog 18 #[s.val A cap] w fun e w' => e = .returned (.bool false) ∧ Below w.heap.size w w' := by
  obtain ⟨id, cols, next⟩ := s
  simp only [Sch.val] at hB ⊢
  have HH := hide hH; clear hH
  go_enter Tryd.func18, Tryd.ntmps18
  go_wp2
  all_goals first
    | (go_ret; exact ⟨rfl, (Below.refl _ _).alloc (Nat.le_refl _) _⟩)
    | (exfalso; refine HH.out ?_; simp only [headOk]; omega)

set_option maxHeartbeats 2000000 in
theorem may_body (s : Sch) (A : Option Addr) (cap : Nat) (w : World) (hcap : s.cols.length ≤ cap) (_hcm : cap ≤ 9223372036854775807) (hat : SlAt w w.heap.size 3 A (s.cols.map Col.cells))
    (hnm : ∀ c ∈ s.cols, c.name.size ≤ 9223372036854775807) (hH : headOk s) :
    Calls Tryd.prog 18 #[s.val A cap] w fun e w' => e = .returned (.bool (okUpto s.next s.cols s.cols.length)) ∧ Below w.heap.size w w' := by
  obtain ⟨id, cols, next⟩ := s
  simp only [Sch.val, headOk] at hcap hat hnm hH ⊢
  obtain ⟨g1, g2, g3, g4, g5, g6⟩ := hH
  have HN := Lib.hid hnm; clear hnm
  have Q0 := At.new w [.int .i64 id, .slice A cols.length cap, .int .i64 next] 24
  have HQ := hide Q0; clear Q0
  go_enter Tryd.func18, Tryd.ntmps18
  go_wp2
  go_loopw [40] (fun i wr => ∃ k : Nat, k ≤ cols.length ∧ i = .int .i64 k ∧ okUpto next cols k = true ∧ Below (w.heap.size + 1) (w.alloc (.cells #[.int .i64 id, .slice A cols.length cap, .int .i64 next] 24)) wr) (fun i _ => cols.length - (intOf i).toNat)
  case atStart => exact ⟨0, Nat.zero_le _, rfl, rfl, Below.refl _ _⟩
  case round =>
    obtain ⟨wo, rfl⟩ : ∃ wo : World, wo = wr := ⟨_, rfl⟩
    obtain ⟨k, hk, rfl, hok, hbw⟩ := hrel
    have HO := hide hok; clear hok
    have hbw0 : Below w.heap.size w wo := (below_a1 w _).trans (hbw.mono (by omega))
    have hs1 : w.heap.size < wo.heap.size := by have := hbw.size; simp at this; omega
    by_cases hlt : k < cols.length
    · obtain ⟨b, off, rfl, hb, hc⟩ := hat.keep hbw0 (by simpa using Nat.lt_of_le_of_lt (Nat.zero_le _) hlt)
      have Hc := hide hc; clear hc
      obtain ⟨c, hcc⟩ : ∃ c, cols[k]? = some c := ⟨_, List.getElem?_eq_getElem hlt⟩
      have HC := hide hcc
      have hck := Hc.out k c.cells (by simp [hcc])
      obtain ⟨h1, h2, h3⟩ := At.l3 hck
      have hnk := HN.out c (List.mem_of_getElem? hcc)
      clear hcc hck
      obtain ⟨q0, q1, q2⟩ := At.z3 (HQ.out.below hbw (by omega))
      have t1 : b < wo.heap.size := by omega
      have HB := hide hbw; clear hbw
      cases hco : colOk next c with
      | false =>
        have Hco := hide hco; clear hco
        go_wp2_with (first
          | (go_at_call 35; refine (name_any _ _ hnk).mono ?_; rintro e w1 ⟨rfl, hb1⟩; obtain ⟨c1, f1⟩ := bcell hb1; have z1 := hb1.size; simp only [hsz] at z1; have z2 : wo.heap.size < w1.heap.size := (by omega); have z3 : w.heap.size < w1.heap.size := (by omega); have z4 : b < w1.heap.size := (by omega); clear z1; have H1 := hide hb1; clear hb1)
          | (go_at_call 36; refine (vecKind_any _ _).mono ?_; rintro e w1 ⟨rfl, rfl⟩))
        all_goals first
          | (go_ret; exact ⟨ret_bool (okUpto_bad hlt (okAt_of HC.out Hco.out)).symm, by first | exact hbw0.alloc (by omega) _ | exact (hbw0.alloc (by omega) _).trans (H1.out.mono (by simp; omega))⟩)
          | (exfalso
             have a1 : 1 ≤ c.id := by assumption
             have a2 : c.id < next := by assumption
             have a3 : nameB c.name = true := by assumption
             have a4 : (1 ≤ c.id ∧ c.id < next) ∧ (!kindB c.kind) = false := by assumption
             have a5 := Hco.out
             rw [colOk_yes a1 a2 a3 (by simpa using a4.2)] at a5
             cases a5)
      | true =>
        have Hco := hide hco
        obtain ⟨e1, e2, e3, e4⟩ := colOk_inv hco
        clear hco
        have E3 := hide e3; clear e3
        have E4 := hide e4; clear e4
        go_wp2_with (first
          | (go_at_call 35; refine (name_any _ _ hnk).mono ?_; rintro e w1 ⟨rfl, hb1⟩; rw [E3.out]; obtain ⟨c1, f1⟩ := bcell hb1; have z1 := hb1.size; simp only [hsz] at z1; have z2 : wo.heap.size < w1.heap.size := (by omega); have z3 : w.heap.size < w1.heap.size := (by omega); have z4 : b < w1.heap.size := (by omega); clear z1; have H1 := hide hb1; clear hb1)
          | (go_at_call 36; refine (vecKind_any _ _).mono ?_; rintro e w1 ⟨rfl, rfl⟩; rw [E4.out]))
        have hb01 : Below w.heap.size w w1 := (hbw0.alloc (by omega) _).trans (H1.out.mono (by rw [hsz]; omega))
        have HA := hide ((At.new wo c.cells 53).below H1.out (by rw [hsz]; omega))
        clear h1 h2 h3 q0 q1 q2 c1 f1
        go_loopw [72] (fun i wi => ∃ j : Nat, j ≤ k ∧ i = .int .i64 j ∧ (cols.take j).any (clash c) = false ∧ Below w1.heap.size w1 wi) (fun i _ => k - (intOf i).toNat)
        case atStart => exact ⟨0, Nat.zero_le _, rfl, rfl, Below.refl _ _⟩
        case round =>
          obtain ⟨j, hj, rfl, hcl, hbi⟩ := hrel
          have HCL := hide hcl; clear hcl
          have hsi : w1.heap.size ≤ wr.heap.size := hbi.size
          have HBI := hide hbi; clear hbi
          by_cases hjk : j < k
          · obtain ⟨d, hdd⟩ : ∃ d, cols[j]? = some d := ⟨_, List.getElem?_eq_getElem (by omega)⟩
            have HD := hide hdd
            obtain ⟨b', off', hA', _, hcd⟩ := hat.keep (hb01.trans (HBI.out.mono (by omega))) (by simpa using Nat.lt_of_le_of_lt (Nat.zero_le _) hlt)
            obtain ⟨rfl, rfl⟩ : b = b' ∧ off = off' := by simpa using hA'
            obtain ⟨h1, h2, h3⟩ := At.l3 (hcd j d.cells (by simp [hdd]))
            obtain ⟨p0, p1, _⟩ := At.z3 (HA.out.below HBI.out (by omega))
            clear hdd hcd hA'
            have y1 : b < wr.heap.size := by omega
            have y2 : wo.heap.size < wr.heap.size := by omega
            have hget : cols[j]'(by omega) = d := by
              have := HD.out
              rw [List.getElem?_eq_getElem (by omega)] at this
              exact Option.some.inj this
            have HG := hide hget; clear hget
            go_wp2
            · go_ret
              exact ⟨ret_bool (okUpto_bad hlt (okAt_clash HC.out (any_take_yes _ _ j k hjk (by omega) (by rw [HG.out]; exact clash_id (by assumption))))).symm,
                (hb01.trans (HBI.out.mono (by omega))).alloc (by omega) _⟩
            · go_ret
              exact ⟨ret_bool (okUpto_bad hlt (okAt_clash HC.out (any_take_yes _ _ j k hjk (by omega) (by rw [HG.out]; exact clash_or (by assumption))))).symm,
                (hb01.trans (HBI.out.mono (by omega))).alloc (by omega) _⟩
            · go_roundw
              case rel =>
                exact ⟨j + 1, by omega, by go_num, by rw [any_take_succ _ _ _ (by omega), HCL.out, HG.out, clash_no (by assumption)]; rfl, HBI.out.alloc (by omega) _⟩
              case measure => simp [intOf]; omega
          · obtain rfl : j = k := by omega
            go_wp2
            go_roundw
            case rel =>
              refine ⟨j + 1, by omega, by go_num, ?_, ?_⟩
              · simp only [okUpto, HO.out, Bool.true_and]
                exact okAt_yes HC.out Hco.out HCL.out
              · exact ((HB.out.alloc (by omega) _).trans (H1.out.mono (by rw [hsz]; omega))).trans (HBI.out.mono (by omega))
            case measure => simp [intOf]; omega
    · go_wp2_with fail
      go_ret
      obtain rfl : k = cols.length := by omega
      exact ⟨ret_bool HO.out.symm, hbw0⟩
theorem may_any (s : Sch) (A : Option Addr) (cap : Nat) (w : World) (hcap : s.cols.length ≤ cap) (hcm : cap ≤ 9223372036854775807) (hB : s.cols.length ≤ 4398046511103) (hat : SlAt w w.heap.size 3 A (s.cols.map Col.cells))
    (hnm : ∀ c ∈ s.cols, c.name.size ≤ 9223372036854775807) :
    Calls Tryd.prog 18 #[s.val A cap] w fun e w' => e = .returned (.bool (mayB s)) ∧ Below w.heap.size w w' := by
  by_cases h : headOk s
  · refine (may_body s A cap w hcap hcm hat hnm h).mono fun e w' ⟨he, hb⟩ => ⟨?_, hb⟩
    rw [he]
    exact ret_bool (by simp [mayB, h])
  · refine (may_head s A cap w (by omega) h).mono fun e w' ⟨he, hb⟩ => ⟨?_, hb⟩
    rw [he]
    exact ret_bool (by simp [mayB, h])
end Go.Proofs.YtinpnginjpfbpaaDoor
