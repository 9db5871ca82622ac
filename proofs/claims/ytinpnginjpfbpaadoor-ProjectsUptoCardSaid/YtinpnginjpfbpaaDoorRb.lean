/-
  The document's own answer: may a schema be.
-/
import Derived.Test.YtinpnginjpfbpaaDoorRa
import Derived.Test.YtinpnginjpfbpaaDoorBase
namespace Go.Proofs.YtinpnginjpfbpaaDoor
open Go.RowKit

def rheadOk (s : Sch) : Prop := 0 ≤ s.id ∧ s.id ≤ 2147483647 ∧ s.next ≤ 2147483647 ∧ 1 ≤ s.cols.length ∧ s.cols.length ≤ 12
instance (s : Sch) : Decidable (rheadOk s) := by unfold rheadOk; infer_instance
theorem mayB_r (s : Sch) : mayB s = (decide (rheadOk s) && okUpto s.next s.cols s.cols.length) := by
  unfold mayB
  cases ho : okUpto s.next s.cols s.cols.length with
  | false => simp
  | true =>
    simp only [Bool.and_true]
    rw [decide_eq_decide]
    unfold headOk rheadOk
    constructor
    · rintro ⟨a, b, c, d, e, f⟩; exact ⟨a, b, f, c, d⟩
    · rintro ⟨a, b, f, c, d⟩
      refine ⟨a, b, c, d, ?_, f⟩
      have h1 := okUpto_le (k := 1) c ho
      simp only [okUpto, Bool.true_and] at h1
      obtain ⟨x, hx⟩ : ∃ x, s.cols[0]? = some x := ⟨_, List.getElem?_eq_getElem c⟩
      simp only [okAt, hx, Bool.and_eq_true] at h1
      have := colOk_inv h1.1
      omega

set_option maxHeartbeats 400000 in
theorem rmay_head (s : Sch) (A : Option Addr) (cap : Nat) (w : World) (hB : s.cols.length ≤ 4611686018427387904) (hH : ¬ rheadOk s) :
    Calls Tryd.prog 23 #[s.val A cap] w fun e w' => e = .returned (.bool false) ∧ Step w w' := by
  obtain ⟨id, cols, next⟩ := s
  simp only [Sch.val] at hB ⊢
  have HH := hide hH; clear hH
  go_enter Tryd.func23, Tryd.ntmps23
  go_wp2
  all_goals first
    | (go_ret; exact ⟨rfl, Step.of⟩)
    | (exfalso; refine HH.out ?_; simp only [rheadOk]; omega)

set_option maxHeartbeats 2000000 in
theorem rmay_body {w0 : World} (s : Sch) (A : Option Addr) (cap : Nat) (w : World) (h : SchIn w0 s A cap) [hf : Fut w0 w] (hH : rheadOk s) :
    Calls Tryd.prog 23 #[s.val A cap] w fun e w' => e = .returned (.bool (okUpto s.next s.cols s.cols.length)) ∧ Step w w' := by
  have hat := h.at_
  have z0 := hf.below.size
  obtain ⟨id, cols, next⟩ := s
  simp only [Sch.val, rheadOk] at hat hH ⊢
  obtain ⟨g1, g2, g3, g4, g5⟩ := hH
  have HQ := hide (Blk.new w [.int .i64 id, .slice A cols.length cap, .int .i64 next] 24)
  go_enter Tryd.func23, Tryd.ntmps23
  go_wp2
  go_loopw [3, 4, 5] (fun i _ _ wr => ∃ k : Nat, k ≤ cols.length ∧ i = .int .i64 k ∧ okUpto next cols k = true ∧ Step (w.alloc (.cells #[.int .i64 id, .slice A cols.length cap, .int .i64 next] 24)) wr) (fun i _ _ _ => cols.length - (intOf i).toNat)
  case atStart => exact ⟨0, Nat.zero_le _, rfl, rfl, Step.of⟩
  case round =>
    obtain ⟨wo, rfl⟩ : ∃ wo : World, wo = wr := ⟨_, rfl⟩
    obtain ⟨k, hk, rfl, hok, hst⟩ := hrel
    have HO := hide hok; clear hok
    have hs1 := hst.size
    simp only [hsz] at hs1
    have hs2 : w.heap.size < wo.heap.size := by omega
    obtain ⟨q0, q1, q2⟩ := At.z3 (HQ.out.fut (w' := wo)).at0
    by_cases hlt : k < cols.length
    · obtain ⟨b, off, rfl, hb, hc⟩ := hat.elem (w' := wo) inferInstance (k := k) (by simpa using hlt)
      obtain ⟨c, hcc⟩ : ∃ c, cols[k]? = some c := ⟨_, List.getElem?_eq_getElem hlt⟩
      have HC := hide hcc
      obtain ⟨h1, h2, h3⟩ := At.l3 (hc k c.cells (by simp [hcc]))
      have hs3 : b < wo.heap.size := by omega
      clear hcc hc
      have HA := hide (Blk.new wo [.int .i64 c.id, .string c.name, .int .i64 c.kind] 53)
      cases hco : colOk next c with
      | false =>
        have Hco := hide hco; clear hco
        obtain ⟨E3, E4⟩ : Hid (nameB c.name = nameB c.name) ∧ Hid (kindB c.kind = kindB c.kind) := ⟨rfl, rfl⟩
        by_cases e1 : 1 ≤ c.id
        · by_cases e2 : c.id < next
          · cases e3 : nameB c.name with
            | true =>
              cases e4 : kindB c.kind with
              | true => have a5 := Hco.out; rw [colOk_yes e1 e2 e3 e4] at a5; cases a5
              | false =>
                clear E3 E4
                have E3 := hide e3; clear e3
                have E4 := hide e4; clear e4
                go_wp2_with (first
                  | (go_at_call 38; refine (rname_any _ _).mono ?_; rintro e w1 ⟨rfl, rfl⟩; rw [E3.out])
                  | (go_at_call 39; refine (rkind_any _ _).mono ?_; rintro e w1 ⟨rfl, rfl⟩; rw [E4.out]))
                go_ret
                exact ⟨ret_bool (okUpto_bad hlt (okAt_of HC.out Hco.out)).symm, Step.of⟩
            | false =>
              clear E3
              have E3 := hide e3; clear e3
              go_wp2_with (first
                | (go_at_call 38; refine (rname_any _ _).mono ?_; rintro e w1 ⟨rfl, rfl⟩; rw [E3.out])
                | (go_at_call 39; refine (rkind_any _ _).mono ?_; rintro e w1 ⟨rfl, rfl⟩; rw [E4.out]))
              go_ret
              exact ⟨ret_bool (okUpto_bad hlt (okAt_of HC.out Hco.out)).symm, Step.of⟩
          · have e5 : next ≤ c.id := by omega
            clear e2
            go_wp2_with (first
              | (go_at_call 38; refine (rname_any _ _).mono ?_; rintro e w1 ⟨rfl, rfl⟩; rw [E3.out])
              | (go_at_call 39; refine (rkind_any _ _).mono ?_; rintro e w1 ⟨rfl, rfl⟩; rw [E4.out]))
            go_ret
            exact ⟨ret_bool (okUpto_bad hlt (okAt_of HC.out Hco.out)).symm, Step.of⟩
        · have e5 : c.id < 1 := by omega
          clear e1
          go_wp2_with (first
            | (go_at_call 38; refine (rname_any _ _).mono ?_; rintro e w1 ⟨rfl, rfl⟩; rw [E3.out])
            | (go_at_call 39; refine (rkind_any _ _).mono ?_; rintro e w1 ⟨rfl, rfl⟩; rw [E4.out]))
          go_ret
          exact ⟨ret_bool (okUpto_bad hlt (okAt_of HC.out Hco.out)).symm, Step.of⟩
      | true =>
        have Hco := hide hco
        obtain ⟨e1, e2, e3, e4⟩ := colOk_inv hco
        clear hco
        have E3 := hide e3; clear e3
        have E4 := hide e4; clear e4
        go_wp2_with (first
          | (go_at_call 38; refine (rname_any _ _).mono ?_; rintro e w1 ⟨rfl, rfl⟩; rw [E3.out])
          | (go_at_call 39; refine (rkind_any _ _).mono ?_; rintro e w1 ⟨rfl, rfl⟩; rw [E4.out]))
        clear h1 h2 h3 q0 q1 q2
        go_loopw [5] (fun i wi => ∃ j : Nat, j ≤ k ∧ i = .int .i64 j ∧ (cols.take j).any (clash c) = false ∧ Step (wo.alloc (.cells #[.int .i64 c.id, .string c.name, .int .i64 c.kind] 53)) wi) (fun i _ => k - (intOf i).toNat)
        case atStart => exact ⟨0, Nat.zero_le _, rfl, rfl, Step.of⟩
        case round =>
          obtain ⟨j, hj, rfl, hcl, hsi⟩ := hrel
          have HCL := hide hcl; clear hcl
          obtain ⟨q0, q1, q2⟩ := At.z3 (HQ.out.fut (w' := wr)).at0
          obtain ⟨p0, p1, _⟩ := At.z3 (HA.out.fut (w' := wr)).at0
          by_cases hjk : j < k
          · obtain ⟨d, hdd⟩ : ∃ d, cols[j]? = some d := ⟨_, List.getElem?_eq_getElem (by omega)⟩
            have HD := hide hdd
            obtain ⟨b', off', hA', _, hcd⟩ := hat.elem (w' := wr) inferInstance (k := j) (by simp; omega)
            obtain ⟨rfl, rfl⟩ : b = b' ∧ off = off' := by simpa using hA'
            obtain ⟨h1, h2, h3⟩ := At.l3 (hcd j d.cells (by simp [hdd]))
            clear hdd hcd hA'
            have hget : cols[j]'(by omega) = d := by
              have := HD.out
              rw [List.getElem?_eq_getElem (by omega)] at this
              exact Option.some.inj this
            have HG := hide hget; clear hget
            have hjl : j < cols.length := by omega
            cases hd1 : (d.id == c.id) with
            | true =>
              go_wp2
              go_quiet (fail)
              go_wp2
              go_ret
              exact ⟨ret_bool (okUpto_bad hlt (okAt_clash HC.out (any_take_yes _ _ j k hjk (by omega) (by rw [HG.out]; exact clash_id (by simpa using hd1))))).symm, Step.of⟩
            | false =>
              cases hd2 : (d.name.toList == c.name.toList) with
              | true =>
                go_wp2
                go_quiet (fail)
                go_wp2
                go_ret
                exact ⟨ret_bool (okUpto_bad hlt (okAt_clash HC.out (any_take_yes _ _ j k hjk (by omega) (by rw [HG.out]; exact clash_or (.inr hd2))))).symm, Step.of⟩
              | false =>
                go_wp2
                go_quiet (fail)
                go_wp2
                go_roundw
                case rel =>
                  exact ⟨j + 1, by omega, by go_num, by rw [any_take_succ _ _ _ (by omega), HCL.out, HG.out, clash_no ⟨hd1, hd2⟩]; rfl, Step.of⟩
                case measure => simp [intOf]; omega
          · obtain rfl : j = k := by omega
            go_wp2
            go_roundw
            case rel =>
              refine ⟨j + 1, by omega, by go_num, ?_, Step.of⟩
              simp only [okUpto, HO.out, Bool.true_and]
              exact okAt_yes HC.out Hco.out HCL.out
            case measure => simp [intOf]; omega
    · go_wp2_with fail
      go_ret
      obtain rfl : k = cols.length := by omega
      exact ⟨ret_bool HO.out.symm, Step.of⟩
theorem rmay_any {w0 : World} (s : Sch) (A : Option Addr) (cap : Nat) (w : World) (h : SchIn w0 s A cap) [hf : Fut w0 w] :
    Calls Tryd.prog 23 #[s.val A cap] w fun e w' => e = .returned (.bool (mayB s)) ∧ Step w w' := by
  rw [mayB_r]
  by_cases hH : rheadOk s
  · rw [decide_eq_true hH, Bool.true_and]
    exact rmay_body s A cap w h hH
  · rw [decide_eq_false hH, Bool.false_and]
    exact rmay_head s A cap w (by have := h.len; omega) hH
end Go.Proofs.YtinpnginjpfbpaaDoor
