/-
  Texts put together: Ra, Rb, Ns, Ps, Pb, Pk, PrL, Pn.
-/
import Derived.Deep.RegionHeld3
import Derived.Deep.RegionLaw
import Derived.Deep.Cut
import Derived.Deep.CutBlock
import Derived.Test.YtnphokhehacfnaaGreatDoorPz00
import Derived.Test.YtnphokhehacfnaaGreatDoorPz01
import Derived.Test.YtnphokhehacfnaaGreatDoorPz02
import Derived.Test.YtnphokhehacfnaaGreatDoorPz03
namespace Go.Proofs.YtnphokhehacfnaaGreatDoor
open Go.RowKit

theorem SchIn.fut {w w' : World} {s : Sch} {A : Option Addr} {cap : Nat} (h : SchIn w s A cap) [k : Fut w w'] : SchIn w' s A cap := ⟨h.hcap, h.hcapm, h.len, h.at_.fut, h.names⟩

theorem rkind_any (k : Int) (w : World) : Calls Tryz.prog 112 #[.int .i64 k] w fun e w' => e = .returned (.bool (kindB k)) ∧ w = w' := by
  go_enter Tryz.func112, Tryz.ntmps112
  go_wp2
  all_goals
    go_ret
    exact ⟨ret_bool (by simp [kindB]; try omega), rfl⟩

def fineU (x : Nat) : Bool := (decide (97 ≤ x) && decide (x ≤ 122) || decide (48 ≤ x) && decide (x ≤ 57)) || decide (x = 95)
theorem set_fineU : ∀ n, n < 256 → nameSet.contains (UInt8.ofNat n) = fineU n := by decide +kernel
theorem fineU_iff (c : UInt8) : nameSet.contains c = true ↔ (97 ≤ c.toNat ∧ c.toNat ≤ 122 ∨ 48 ≤ c.toNat ∧ c.toNat ≤ 57) ∨ c.toNat = 95 := by
  have h := set_fineU c.toNat c.toNat_lt
  rw [UInt8.ofNat_toNat] at h
  rw [h]
  simp [fineU]
theorem all_drop {α : Type} (p : α → Bool) (l : List α) (k : Nat) (h : k < l.length) : (l.drop k).all p = (p l[k] && (l.drop (k + 1)).all p) := by
  rw [List.drop_eq_getElem_cons h, List.all_cons]

set_option maxHeartbeats 1000000 in
theorem rname_any (s : ByteArray) (w : World) : Calls Tryz.prog 111 #[.string s] w fun e w' => e = .returned (.bool (nameB s)) ∧ w = w' := by
  by_cases h1 : 1 ≤ s.size
  · by_cases h2 : s.size ≤ 16
    · obtain ⟨R, hR⟩ : ∃ R, nameB s = R := ⟨_, rfl⟩
      have h0 : (s.data.toList.drop 0).all (nameSet.contains ·) = R := by rw [← hR]; simp [nameB, h1, h2]
      have HR := hide hR
      rw [HR.out]
      clear hR
      have H0 := hide h0; clear h0
      go_enter Tryz.func111, Tryz.ntmps111
      go_wp2
      go_loop [3, 4] (fun i _ => ∃ k : Nat, k ≤ s.size ∧ i = .int .i64 k ∧ (s.data.toList.drop k).all (nameSet.contains ·) = R) (fun i _ => s.size - (intOf i).toNat)
      case atStart => exact ⟨0, Nat.zero_le _, rfl, H0.out⟩
      case round =>
        obtain ⟨k, hk, rfl, hal⟩ := hrel
        have HA := hide hal; clear hal
        by_cases hlt : k < s.size
        · have hd := all_drop (nameSet.contains ·) s.data.toList k (by simpa using hlt)
          have HD := hide hd; clear hd
          have hfi := fineU_iff s[k]
          have HF := hide hfi; clear hfi
          have hs : (s.data.toList[k]'(by simpa using hlt)) = s[k] := rfl
          have HS := hide hs; clear hs
          cases hx : nameSet.contains s[k] with
          | true =>
            have HX := hide hx; clear hx
            have hy := HF.out.1 HX.out
            go_wp2
            all_goals first
              | (exfalso; omega)
              | (exfalso; simp at *; omega)
              | (go_round
                 case rel => exact ⟨k + 1, by omega, by go_num, by have := HA.out; rw [HD.out, HS.out, HX.out, Bool.true_and] at this; exact this⟩
                 case measure => simp [intOf]; omega)
          | false =>
            have HX := hide hx; clear hx
            have hy : ¬ ((97 ≤ s[k].toNat ∧ s[k].toNat ≤ 122 ∨ 48 ≤ s[k].toNat ∧ s[k].toNat ≤ 57) ∨ s[k].toNat = 95) := fun h => by have := HF.out.2 h; rw [HX.out] at this; cases this
            have hr : R = false := by have := HA.out; rw [HD.out, HS.out, HX.out, Bool.false_and] at this; exact this.symm
            have HRF := hide hr; clear hr
            go_wp2
            all_goals first
              | (exfalso; omega)
              | (exfalso; simp at *; omega)
              | (go_ret; exact ⟨ret_bool HRF.out.symm, rfl⟩)
        · obtain rfl : k = s.size := by omega
          go_wp2
          go_ret
          exact ⟨ret_bool (by rw [← HA.out, List.drop_of_length_le (by simp)]; rfl), rfl⟩
    · have h3 : 16 < s.size := by omega
      clear h2
      go_enter Tryz.func111, Tryz.ntmps111
      go_wp2
      go_ret
      exact ⟨ret_bool (by simp [nameB]; omega), rfl⟩
  · have h3 : s.size = 0 := by omega
    clear h1
    go_enter Tryz.func111, Tryz.ntmps111
    go_wp2
    go_ret
    exact ⟨ret_bool (by simp [nameB, h3]), rfl⟩
end Go.Proofs.YtnphokhehacfnaaGreatDoor

namespace Go.Proofs.YtnphokhehacfnaaGreatDoor
open Go.RowKit

def rheadOk (s : Sch) : Prop := 0 ≤ s.id ∧ s.id ≤ 2147483647 ∧ s.next ≤ 2147483647 ∧ 1 ≤ s.cols.length ∧ s.cols.length ≤ 12
instance (s : Sch) : Decidable (rheadOk s) := by unfold rheadOk; infer_instance
theorem mayB_r (s : Sch) : mayB s = (decide (rheadOk s) && okUpto s.next s.cols s.cols.length) := by
  unfold mayB
  cases ho : okUpto s.next s.cols s.cols.length with
  | false => simp
  | true =>
    simp only [Bool.and_true]
    rw [decide_eq_decide]
    unfold headOk rheadOk
    constructor
    · rintro ⟨a, b, c, d, e, f⟩; exact ⟨a, b, f, c, d⟩
    · rintro ⟨a, b, f, c, d⟩
      refine ⟨a, b, c, d, ?_, f⟩
      have h1 := okUpto_le (k := 1) c ho
      simp only [okUpto, Bool.true_and] at h1
      obtain ⟨x, hx⟩ : ∃ x, s.cols[0]? = some x := ⟨_, List.getElem?_eq_getElem c⟩
      simp only [okAt, hx, Bool.and_eq_true] at h1
      have := colOk_inv h1.1
      omega

set_option maxHeartbeats 400000 in
theorem rmay_head (s : Sch) (A : Option Addr) (cap : Nat) (w : World) (hB : s.cols.length ≤ 4611686018427387904) (hH : ¬ rheadOk s) :
    Calls Tryz.prog 57 #[s.val A cap] w fun e w' => e = .returned (.bool false) ∧ Step w w' := by
  obtain ⟨id, cols, next⟩ := s
  simp only [Sch.val] at hB ⊢
  have HH := hide hH; clear hH
  go_enter Tryz.func57, Tryz.ntmps57
  go_wp2
  all_goals first
    | (go_ret; exact ⟨rfl, Step.of⟩)
    | (exfalso; refine HH.out ?_; simp only [rheadOk]; omega)

set_option maxHeartbeats 2000000 in
theorem rmay_body {w0 : World} (s : Sch) (A : Option Addr) (cap : Nat) (w : World) (h : SchIn w0 s A cap) [hf : Fut w0 w] (hH : rheadOk s) :
    Calls Tryz.prog 57 #[s.val A cap] w fun e w' => e = .returned (.bool (okUpto s.next s.cols s.cols.length)) ∧ Step w w' := by
  have hat := h.at_
  have z0 := hf.below.size
  obtain ⟨id, cols, next⟩ := s
  simp only [Sch.val, rheadOk] at hat hH ⊢
  obtain ⟨g1, g2, g3, g4, g5⟩ := hH
  have HQ := hide (Blk.new w [.int .i64 id, .slice A cols.length cap, .int .i64 next] 24)
  go_enter Tryz.func57, Tryz.ntmps57
  go_wp2
  go_loopw [3, 4, 5] (fun i _ _ wr => ∃ k : Nat, k ≤ cols.length ∧ i = .int .i64 k ∧ okUpto next cols k = true ∧ Step (w.alloc (.cells #[.int .i64 id, .slice A cols.length cap, .int .i64 next] 24)) wr) (fun i _ _ _ => cols.length - (intOf i).toNat)
  case atStart => exact ⟨0, Nat.zero_le _, rfl, rfl, Step.of⟩
  case round =>
    obtain ⟨wo, rfl⟩ : ∃ wo : World, wo = wr := ⟨_, rfl⟩
    obtain ⟨k, hk, rfl, hok, hst⟩ := hrel
    have HO := hide hok; clear hok
    have hs1 := hst.size
    simp only [hsz] at hs1
    have hs2 : w.heap.size < wo.heap.size := by omega
    obtain ⟨q0, q1, q2⟩ := At.z3 (HQ.out.fut (w' := wo)).at0
    by_cases hlt : k < cols.length
    · obtain ⟨b, off, rfl, hb, hc⟩ := hat.elem (w' := wo) inferInstance (k := k) (by simpa using hlt)
      obtain ⟨c, hcc⟩ : ∃ c, cols[k]? = some c := ⟨_, List.getElem?_eq_getElem hlt⟩
      have HC := hide hcc
      obtain ⟨h1, h2, h3⟩ := At.l3 (hc k c.cells (by simp [hcc]))
      have hs3 : b < wo.heap.size := by omega
      clear hcc hc
      have HA := hide (Blk.new wo [.int .i64 c.id, .string c.name, .int .i64 c.kind] 90)
      cases hco : colOk next c with
      | false =>
        have Hco := hide hco; clear hco
        obtain ⟨E3, E4⟩ : Hid (nameB c.name = nameB c.name) ∧ Hid (kindB c.kind = kindB c.kind) := ⟨rfl, rfl⟩
        by_cases e1 : 1 ≤ c.id
        · by_cases e2 : c.id < next
          · cases e3 : nameB c.name with
            | true =>
              cases e4 : kindB c.kind with
              | true => have a5 := Hco.out; rw [colOk_yes e1 e2 e3 e4] at a5; cases a5
              | false =>
                clear E3 E4
                have E3 := hide e3; clear e3
                have E4 := hide e4; clear e4
                go_wp2_with (first
                  | (go_at_call 111; refine (rname_any _ _).mono ?_; rintro e w1 ⟨rfl, rfl⟩; rw [E3.out])
                  | (go_at_call 112; refine (rkind_any _ _).mono ?_; rintro e w1 ⟨rfl, rfl⟩; rw [E4.out]))
                go_ret
                exact ⟨ret_bool (okUpto_bad hlt (okAt_of HC.out Hco.out)).symm, Step.of⟩
            | false =>
              clear E3
              have E3 := hide e3; clear e3
              go_wp2_with (first
                | (go_at_call 111; refine (rname_any _ _).mono ?_; rintro e w1 ⟨rfl, rfl⟩; rw [E3.out])
                | (go_at_call 112; refine (rkind_any _ _).mono ?_; rintro e w1 ⟨rfl, rfl⟩; rw [E4.out]))
              go_ret
              exact ⟨ret_bool (okUpto_bad hlt (okAt_of HC.out Hco.out)).symm, Step.of⟩
          · have e5 : next ≤ c.id := by omega
            clear e2
            go_wp2_with (first
              | (go_at_call 111; refine (rname_any _ _).mono ?_; rintro e w1 ⟨rfl, rfl⟩; rw [E3.out])
              | (go_at_call 112; refine (rkind_any _ _).mono ?_; rintro e w1 ⟨rfl, rfl⟩; rw [E4.out]))
            go_ret
            exact ⟨ret_bool (okUpto_bad hlt (okAt_of HC.out Hco.out)).symm, Step.of⟩
        · have e5 : c.id < 1 := by omega
          clear e1
          go_wp2_with (first
            | (go_at_call 111; refine (rname_any _ _).mono ?_; rintro e w1 ⟨rfl, rfl⟩; rw [E3.out])
            | (go_at_call 112; refine (rkind_any _ _).mono ?_; rintro e w1 ⟨rfl, rfl⟩; rw [E4.out]))
          go_ret
          exact ⟨ret_bool (okUpto_bad hlt (okAt_of HC.out Hco.out)).symm, Step.of⟩
      | true =>
        have Hco := hide hco
        obtain ⟨e1, e2, e3, e4⟩ := colOk_inv hco
        clear hco
        have E3 := hide e3; clear e3
        have E4 := hide e4; clear e4
        go_wp2_with (first
          | (go_at_call 111; refine (rname_any _ _).mono ?_; rintro e w1 ⟨rfl, rfl⟩; rw [E3.out])
          | (go_at_call 112; refine (rkind_any _ _).mono ?_; rintro e w1 ⟨rfl, rfl⟩; rw [E4.out]))
        clear h1 h2 h3 q0 q1 q2
        go_loopw [5] (fun i wi => ∃ j : Nat, j ≤ k ∧ i = .int .i64 j ∧ (cols.take j).any (clash c) = false ∧ Step (wo.alloc (.cells #[.int .i64 c.id, .string c.name, .int .i64 c.kind] 90)) wi) (fun i _ => k - (intOf i).toNat)
        case atStart => exact ⟨0, Nat.zero_le _, rfl, rfl, Step.of⟩
        case round =>
          obtain ⟨j, hj, rfl, hcl, hsi⟩ := hrel
          have HCL := hide hcl; clear hcl
          obtain ⟨q0, q1, q2⟩ := At.z3 (HQ.out.fut (w' := wr)).at0
          obtain ⟨p0, p1, _⟩ := At.z3 (HA.out.fut (w' := wr)).at0
          by_cases hjk : j < k
          · obtain ⟨d, hdd⟩ : ∃ d, cols[j]? = some d := ⟨_, List.getElem?_eq_getElem (by omega)⟩
            have HD := hide hdd
            obtain ⟨b', off', hA', _, hcd⟩ := hat.elem (w' := wr) inferInstance (k := j) (by simp; omega)
            obtain ⟨rfl, rfl⟩ : b = b' ∧ off = off' := by simpa using hA'
            obtain ⟨h1, h2, h3⟩ := At.l3 (hcd j d.cells (by simp [hdd]))
            clear hdd hcd hA'
            have hget : cols[j]'(by omega) = d := by
              have := HD.out
              rw [List.getElem?_eq_getElem (by omega)] at this
              exact Option.some.inj this
            have HG := hide hget; clear hget
            have hjl : j < cols.length := by omega
            cases hd1 : (d.id == c.id) with
            | true =>
              go_wp2
              go_quiet (fail)
              go_wp2
              go_ret
              exact ⟨ret_bool (okUpto_bad hlt (okAt_clash HC.out (any_take_yes _ _ j k hjk (by omega) (by rw [HG.out]; exact clash_id (by simpa using hd1))))).symm, Step.of⟩
            | false =>
              cases hd2 : (d.name.toList == c.name.toList) with
              | true =>
                go_wp2
                go_quiet (fail)
                go_wp2
                go_ret
                exact ⟨ret_bool (okUpto_bad hlt (okAt_clash HC.out (any_take_yes _ _ j k hjk (by omega) (by rw [HG.out]; exact clash_or (.inr hd2))))).symm, Step.of⟩
              | false =>
                go_wp2
                go_quiet (fail)
                go_wp2
                go_roundw
                case rel =>
                  exact ⟨j + 1, by omega, by go_num, by rw [any_take_succ _ _ _ (by omega), HCL.out, HG.out, clash_no ⟨hd1, hd2⟩]; rfl, Step.of⟩
                case measure => simp [intOf]; omega
          · obtain rfl : j = k := by omega
            go_wp2
            go_roundw
            case rel =>
              refine ⟨j + 1, by omega, by go_num, ?_, Step.of⟩
              simp only [okUpto, HO.out, Bool.true_and]
              exact okAt_yes HC.out Hco.out HCL.out
            case measure => simp [intOf]; omega
    · go_wp2_with fail
      go_ret
      obtain rfl : k = cols.length := by omega
      exact ⟨ret_bool HO.out.symm, Step.of⟩
theorem rmay_any {w0 : World} (s : Sch) (A : Option Addr) (cap : Nat) (w : World) (h : SchIn w0 s A cap) [hf : Fut w0 w] :
    Calls Tryz.prog 57 #[s.val A cap] w fun e w' => e = .returned (.bool (mayB s)) ∧ Step w w' := by
  rw [mayB_r]
  by_cases hH : rheadOk s
  · rw [decide_eq_true hH, Bool.true_and]
    exact rmay_body s A cap w h hH
  · rw [decide_eq_false hH, Bool.false_and]
    exact rmay_head s A cap w (by have := h.len; omega) hH
end Go.Proofs.YtnphokhehacfnaaGreatDoor

namespace Go.Proofs.YtnphokhehacfnaaGreatDoor
open Go.RowKit

/-- What the document's NewSchema answers. -/
def rnewR (ns : List ByteArray) (ks : List Int) : Sch × Int := if ns.length ≠ ks.length then (Sch.zero, 1200) else nextR ⟨0, newCols ns ks 0, ns.length + 1⟩
set_option maxRecDepth 10000 in
set_option maxHeartbeats 4000000 in
theorem rnew_any (ns : List ByteArray) (ks : List Int) (An Ak : Option Addr) (cn ck : Nat) {wn wk : World} (w : World) (hn : SlAt wn wn.heap.size 1 An (strCells ns)) (hk : SlAt wk wk.heap.size 1 Ak (intCells ks)) [fn : Fut wn w] [fk : Fut wk w]
    (hns : (ns.length + 2) * 32 ≤ 140737488355328) (hnm : ∀ n ∈ ns, n.size ≤ 9223372036854775807) :
    Calls Tryz.prog 73 #[.slice An ns.length cn, .slice Ak ks.length ck] w (SchRes w (rnewR ns ks)) := by
  by_cases hl : ns.length = ks.length
  · have HL := hide hl
    have HKL := hide hl.symm
    clear hl
    rw [HKL.out]
    have HLN := hide (newCols_length ns ks 0 HL.out)
    go_enter Tryz.func73, Tryz.ntmps73
    go_wp2
    have HF1 := hide (((Blks.nil_ w).push 24 [.int .i64 0, .slice none 0 0, .int .i64 0]).push 24 [.int .i64 0, .slice none 0 0, .int .i64 (ns.length + 1)])
    simp only [hsz] at HF1
    go_loopw [7] (fun i wr => ∃ (k : Nat) (A' : Option Addr) (cap' : Nat), k ≤ ns.length ∧ i = .int .i64 k ∧ Blk wr (w.heap.size + 1) 24 [.int .i64 0, .slice A' k cap', .int .i64 (ns.length + 1)] ∧ k ≤ cap' ∧ cap' ≤ maxLen ∧
        Own wr (w.heap.size + 2) 90 3 (.slice A' k cap') (((newCols ns ks 0).take k).map Col.cells) ∧ Blk wr w.heap.size 24 [.int .i64 0, .slice none 0 0, .int .i64 0] ∧ Step w wr ∧ w.heap.size + 2 ≤ wr.heap.size)
      (fun i _ => ns.length - (intOf i).toNat)
    case atStart =>
      obtain ⟨b1, b0, _⟩ := HF1.out
      exact ⟨0, none, 0, Nat.zero_le _, rfl, b1, Nat.le_refl _, by simp [maxLen], by simpa using Own.nil_ _ _ _ _, b0, Step.of, by simp⟩
    case round =>
      obtain ⟨k, A', cap', hk1, rfl, hp, hc1, hc2, hown, hr, hst, hz⟩ := hrel
      have HR := hide hr; clear hr
      have HBW := hide hst.below
      by_cases hlt : k < ns.length
      · obtain ⟨nm, hnm1⟩ : ∃ nm, ns[k]? = some nm := ⟨_, List.getElem?_eq_getElem hlt⟩
        obtain ⟨kd, hkd1⟩ : ∃ kd, ks[k]? = some kd := ⟨_, List.getElem?_eq_getElem (by have := HKL.out; omega)⟩
        have HC := hide (newCols_get ns ks 0 k nm kd hnm1 hkd1)
        obtain ⟨bn, on, rfl, hbn, hcn⟩ := hn.elem (w' := wr) inferInstance (k := k) (by simp [strCells]; omega)
        have n1 := At.l1 (hcn k [.string nm] (by simp [strCells, hnm1]))
        obtain ⟨bk, ok, rfl, hbk, hck⟩ := hk.elem (w' := wr) inferInstance (k := k) (by have := HKL.out; simp [intCells]; omega)
        have n2 := At.l1 (hck k [.int .i64 kd] (by simp [intCells, hkd1]))
        simp only [Nat.mul_one] at n1 n2
        clear hcn hck hnm1 hkd1
        have hp' := hp
        obtain ⟨p0, p1, p2⟩ := At.z3 hp'.at0
        have f1 := hp'.free
        have l1 := hp.lt
        have HP := hide hp; clear hp hp'
        have HOWN := hide hown; clear hown
        have hgn := fn.below.size; have hgk := fk.below.size
        obtain ⟨o, ho⟩ : ∃ o : Obj, o = .cells #[.int .i64 ((k : Int) + 1), .string nm, .int .i64 kd] 90 := ⟨_, rfl⟩
        have HO : Hid (Own (wr.alloc o).drew (w.heap.size + 2) 90 3 (.slice A' k cap') (((newCols ns ks 0).take k).map Col.cells)) := (HOWN.out.alloc o).drew
        have HS : Hid (SlAt (wr.alloc o).drew (wr.alloc o).drew.heap.size 3 (some ⟨wr.heap.size, 0, none⟩) [[.int .i64 ((k : Int) + 1), .string nm, .int .i64 kd]]) := by
          rw [ho]; exact SlAt.one wr.drew 3 [.int .i64 ((k : Int) + 1), .string nm, .int .i64 kd] 90
        have HFt : Hid (Fit 3 [[.int .i64 ((k : Int) + 1), .string nm, .int .i64 kd]]) := cols_fit [⟨(k : Int) + 1, nm, kd⟩]
        have HPo : Hid (Blk (wr.alloc o).drew (w.heap.size + 1) 24 [.int .i64 0, .slice A' k cap', .int .i64 (ns.length + 1)]) := (HP.out.alloc o).drew
        have HLe : Hid (((((newCols ns ks 0).take k).map Col.cells).length + [[Value.int .i64 ((k : Int) + 1), .string nm, .int .i64 kd]].length) * 32 ≤ 140737488355328) := by
          show _ ≤ _; simp [HLN.out]; omega
        have HBs : Hid (w.heap.size + 2 ≤ (wr.alloc o).drew.heap.size) := by show _ ≤ _; simp; omega
        have HN : Hid ((((newCols ns ks 0).take k).map Col.cells).length + [[Value.int .i64 ((k : Int) + 1), .string nm, .int .i64 kd]].length = k + 1) := by show _ = _; simp [HLN.out]; omega
        subst ho
        have hwr : IntKind.i64.wrap ((k : Int) + 1) = (k : Int) + 1 := by rw [IntKind.wrap_i64]; omega
        go_wp2
        go_region_law (refine step_append_sl rfl (.tmp 25) (.tmp 37) 22 rfl eiCol (v := .slice A' k cap') ?hs1 HO.out (cols_fit _) (A := some ⟨wr.heap.size, 0, none⟩) (c := 1) (n := 1) ?hs2 rfl HS.out HFt.out HLe.out HBs.out (N := k + 1) HN.out ?_; (case hs1 => simp [Act.eval]); (case hs2 => simp [Act.eval]); intro A1 cap1 w1 hq1 hq2 hown1 hgr1 hbel1; have hp1 := HPo.out.grown hgr1 (HO.out.ne_ HPo.out (by decide)); obtain ⟨c0, c1, c2⟩ := At.z3 hp1.at0; have f1' := hp1.free 1; have H1 := hide hp1; have H2 := hide hgr1; have H3 := hide hown1; have H4 := hide hbel1; clear hp1 hgr1 hbel1 hown1)
        all_goals
          clear n1 n2 p0 p1 p2 f1 c0 c1 c2 f1' hwr
          go_wp2
          go_roundw
          case rel =>
            have hb1 : Below (w.heap.size + 2) wr w1 := (Below.drew ((Below.refl _ _).alloc hz _)).trans H4.out
            refine ⟨k + 1, A1, cap1, by omega, by go_num, by simpa using H1.out.set_ 1 (.slice A1 (k + 1) cap1), hq1, hq2, ?_, ?_, ⟨?_⟩, ?_⟩
            · rw [List.take_add_one, HC.out, List.map_append]
              have := H3.out.set_other H1.out (by decide) 1 (.slice A1 (k + 1) cap1)
              simpa [Col.cells] using this
            · exact (HR.out.below hb1 (by omega)).far (by simp) _
            · exact (HBW.out.trans (hb1.mono (by omega))).setCell (by simp) _
            · have := hb1.size
              simp [World.setCell]
              omega
          case measure => simp [intOf]; omega
      · obtain rfl : k = ns.length := by omega
        rw [List.take_of_length_le (by rw [HLN.out]; exact Nat.le_refl _)] at hown
        have hsin : SchIn wr ⟨0, newCols ns ks 0, ns.length + 1⟩ A' cap' := ⟨by simp only [HLN.out]; exact hc1, by simpa [maxLen] using hc2, by simp only [HLN.out]; omega, hown.sl (cols_fit _).len, fun c hc => hnm _ (newCols_mem ns ks 0 c hc)⟩
        have hc := rmay_any ⟨0, newCols ns ks 0, ns.length + 1⟩ A' cap' wr hsin
        unfold Sch.val at hc
        simp only [HLN.out] at hc
        have HM := hide hc
        obtain ⟨p0, p1, p2⟩ := At.z3 hp.at0
        have l1 := hp.lt
        have HP := hide hp; clear hp hc hsin
        have HOWN := hide hown; clear hown
        cases hmay : mayB ⟨0, newCols ns ks 0, ns.length + 1⟩ with
        | true =>
          have HMY := hide hmay; clear hmay
          go_wp2_with (refine HM.out.mono ?_; rintro e w4 ⟨rfl, hs4⟩; rw [HMY.out]; have hb4 := hs4.below; obtain ⟨q0, q1, q2⟩ := At.z3 (HP.out.below hb4 (by omega)).at0; obtain ⟨r0, r1, r2⟩ := At.z3 (HR.out.below hb4 (by omega)).at0; have g0 := (HR.out.below hb4 (by omega)).free; have s5 := hb4.size; have H4 := hide hb4; clear hb4)
          have hr4 := HR.out.below H4.out (by omega)
          obtain ⟨t0, t1, t2⟩ := At.z3 (store3 hr4 (.int .i64 0) (.slice A' ns.length cap') (.int .i64 (ns.length + 1)))
          refine bodyPost_ret (v := .tuple #[.agg #[.int .i64 0, .slice A' ns.length cap', .int .i64 (ns.length + 1)], .int .i64 0]) (by simp [results, Tryz.results73, go_sem, t0, t1, t2]) rfl ?_
          rw [rnewR, if_neg (by have := HL.out; omega), nextR, if_pos HMY.out]
          have := SchRes.store (w := w) (w0 := w) (w' := w4) (s := ⟨0, newCols ns ks 0, ns.length + 1⟩) (n := 0) (A := A') (cap := cap') (by simp only [HLN.out]; exact hc1) hc2
            (by simp only [HLN.out]; exact (HOWN.out.keep H4.out (Nat.le_refl _)).more (by omega)) (HBW.out.trans (H4.out.mono (by omega))) (by omega) hr4 (Nat.le_refl _)
          simpa only [Sch.val, HLN.out] using this
        | false =>
          have HMY := hide hmay; clear hmay
          go_wp2_with (refine HM.out.mono ?_; rintro e w4 ⟨rfl, hs4⟩; rw [HMY.out]; have hb4 := hs4.below; obtain ⟨q0, q1, q2⟩ := At.z3 (HP.out.below hb4 (by omega)).at0; obtain ⟨r0, r1, r2⟩ := At.z3 (HR.out.below hb4 (by omega)).at0; have g0 := (HR.out.below hb4 (by omega)).free; have s5 := hb4.size; have H4 := hide hb4; clear hb4)
          have hr4 := HR.out.below H4.out (by omega)
          obtain ⟨t0, t1, t2⟩ := At.z3 (store3 hr4 (.int .i64 0) (.slice none 0 0) (.int .i64 0))
          refine bodyPost_ret (v := .tuple #[.agg #[.int .i64 0, .slice none 0 0, .int .i64 0], .int .i64 1200]) (by simp [results, Tryz.results73, go_sem, t0, t1, t2]) rfl ?_
          rw [rnewR, if_neg (by have := HL.out; omega), nextR, if_neg (by rw [HMY.out]; simp)]
          exact SchRes.err (below3 (HBW.out.trans (H4.out.mono (by omega))) (Nat.le_refl _) _ _ _)
  · have hb : ((ns.length : Int) != (ks.length : Int)) = true := by simp; omega
    have HL := hide hl
    clear hl
    go_enter Tryz.func73, Tryz.ntmps73
    go_wp2
    refine bodyPost_ret (v := .tuple #[.agg #[.int .i64 0, .slice none 0 0, .int .i64 0], .int .i64 1200]) (by simp [results, Tryz.results73, go_sem]) rfl ?_
    rw [rnewR, if_pos HL.out]
    exact SchRes.err ((below_a1 w _))
end Go.Proofs.YtnphokhehacfnaaGreatDoor

namespace Go.Proofs.YtnphokhehacfnaaGreatDoor
open Go.RowKit

/-- A schema whose columns are few and have short names. -/
def Fine (s : Sch) : Prop := s.cols.length ≤ 12 ∧ ∀ c ∈ s.cols, c.name.size ≤ 16
/-- The call answers the schema and the error: read, and the columns' memory is the call's own. -/
def SR (w : World) (r : Sch × Int) (e : Ending) (w' : World) : Prop :=
  ∃ (A : Option Addr) (cap : Nat), e = .returned (.tuple #[.agg #[.int .i64 r.1.id, .slice A r.1.cols.length cap, .int .i64 r.1.next], .int .i64 r.2]) ∧ SchIn w' r.1 A cap ∧
    Own w' w.heap.size 90 3 (.slice A r.1.cols.length cap) (r.1.cols.map Col.cells) ∧ Step w w'
variable {w0 : World}
theorem pmay (s : Sch) (A : Option Addr) (cap : Nat) (w : World) (h : SchIn w0 s A cap) [Fut w0 w] :
    Calls Tryz.prog 54 #[s.val A cap] w fun e w' => e = .returned (.bool (mayB s)) ∧ Step w w' := h.fut.may.mono fun _ _ h => ⟨h.1, ⟨h.2⟩⟩
theorem pfind (s : Sch) (A : Option Addr) (cap : Nat) (nm : ByteArray) (w : World) (h : SchIn w0 s A cap) [Fut w0 w] :
    Calls Tryz.prog 125 #[s.val A cap, .string nm] w fun e w' => e = .returned (.int .i64 (idx (named nm) s.cols)) ∧ Step w w' := (h.fut.find nm).mono fun _ _ h => ⟨h.1, ⟨h.2⟩⟩
end Go.Proofs.YtnphokhehacfnaaGreatDoor

namespace Go.Proofs.YtnphokhehacfnaaGreatDoor
open Go.RowKit

/-- A predicate that is handed in. -/
structure PrIn (w : World) (ns : List Nod) (A : Option Addr) (cap : Nat) : Prop where
  hcap : ns.length ≤ cap
  hcapm : cap ≤ 9223372036854775807
  len : ns.length ≤ 1599289640400
  at_ : SlAt w w.heap.size 9 A (ns.map Nod.cells)
  strs : ∀ n ∈ ns, n.col.size ≤ 9223372036854775807 ∧ n.v.s.size ≤ 9223372036854775807
theorem PrIn.fut {w w' : World} {ns : List Nod} {A : Option Addr} {cap : Nat} (h : PrIn w ns A cap) [k : Fut w w'] : PrIn w' ns A cap := ⟨h.hcap, h.hcapm, h.len, h.at_.fut, h.strs⟩
/-- Node k, in whatever later world. -/
theorem PrIn.node {w w' : World} {ns : List Nod} {A : Option Addr} {cap : Nat} (h : PrIn w ns A cap) (hf : Fut w w') {k : Nat} (hk : k < ns.length) :
    ∃ b off, A = some ⟨b, off, none⟩ ∧ b < w.heap.size ∧ ∃ n, ns[k]? = some n ∧ At w' b (off + k * 9) n.cells := by
  obtain ⟨b, off, e, hb, hc⟩ := h.at_.elem hf (k := k) (by simpa using hk)
  exact ⟨b, off, e, hb, ns[k], List.getElem?_eq_getElem hk, hc k _ (by simp [hk])⟩

theorem ahead_any (k : Int) (m g : Nat) (w : World) (h : w.cell? ⟨g, 0, none⟩ = some (.int .i64 m)) (_hg : g < w.heap.size) :
    Calls Tryz.prog 180 #[.int .i64 k, .pointer (some ⟨g, 0, none⟩)] w fun e w' => e = .returned (.bool (ahead k m)) ∧ w = w' := by
  by_cases h0 : 0 ≤ k
  · by_cases h1 : k < (m : Int)
    · have HX : Hid (ahead k m = true) := by show _ = _; simp [ahead, h0, h1]
      go_enter Tryz.func180, Tryz.ntmps180
      go_wp2
      go_ret
      exact ⟨ret_bool HX.out.symm, rfl⟩
    · have HX : Hid (ahead k m = false) := by show _ = _; simp [ahead, h0, h1]
      have h2 : (m : Int) ≤ k := by omega
      clear h1
      go_enter Tryz.func180, Tryz.ntmps180
      go_wp2
      go_ret
      exact ⟨ret_bool (by rw [HX.out, decide_eq_false_iff_not]; omega), rfl⟩
  · have HX : Hid (ahead k m = false) := by show _ = _; simp [ahead, h0]
    have h2 : k < 0 := by omega
    clear h0
    go_enter Tryz.func180, Tryz.ntmps180
    go_wp2
    go_ret
    exact ⟨ret_bool HX.out.symm, rfl⟩

set_option maxHeartbeats 4000000 in
theorem pmayN_any {w0 : World} (b o : Nat) (n : Nod) (m : Nat) (w : World) (hn : At w0 b o n.cells) (hb : b < w0.heap.size) [hf : Fut w0 w] :
    Calls Tryz.prog 157 #[.pointer (some ⟨b, o, none⟩), .int .i64 m] w fun e w' => e = .returned (.bool (nodB n m)) ∧ Step w w' := by
  have hz := hf.below.size
  have hlt : b < w.heap.size := by omega
  have hn' := hn.below (fut w0 w) hb
  obtain ⟨n0, n1, n2, n3, n4, n5, n6, n7, n8⟩ := At.l9 hn'
  obtain ⟨R, hR⟩ : ∃ R, nodB n m = R := ⟨_, rfl⟩
  have HR := hide hR
  rw [hR]
  clear hR hn hn'
  have AH := hide (fun k => ahead_any k m w.heap.size (w.alloc (.cells #[.int .i64 m] 3)) (At.z1 (Blk.new w [.int .i64 m] _).at0) (by simp))
  by_cases k0 : n.kind = 0
  · rw [k0] at n0
    have HX := hide k0; clear k0
    go_enter Tryz.func157, Tryz.ntmps157
    go_wp2_with (first | (go_at_call 104; refine (vecKind_any _ _).mono ?_; rintro e w' ⟨rfl, rfl⟩; (try rw [K3.out])) | (go_at_call 180; refine (AH.out _).mono ?_; rintro e w' ⟨rfl, rfl⟩; (first | rw [K1.out] | rw [K2.out] | skip)))
    go_ret
    exact ⟨ret_bool (by rw [← HR.out]; simp [nodB, HX.out]), Step.of⟩
  have e0 : (n.kind == 0) = false := by simpa using k0
  by_cases k2 : n.kind = 2
  · rw [k2] at n0
    have HX := hide k2; clear k2 k0 e0
    go_enter Tryz.func157, Tryz.ntmps157
    go_wp2_with (first | (go_at_call 104; refine (vecKind_any _ _).mono ?_; rintro e w' ⟨rfl, rfl⟩; (try rw [K3.out])) | (go_at_call 180; refine (AH.out _).mono ?_; rintro e w' ⟨rfl, rfl⟩; (first | rw [K1.out] | rw [K2.out] | skip)))
    go_ret
    exact ⟨ret_bool (by rw [← HR.out]; simp [nodB, HX.out]), Step.of⟩
  have e2 : (n.kind == 2) = false := by simpa using k2
  by_cases k1 : n.kind = 1
  · rw [k1] at n0
    have HX : Hid (nodB n m = (decide (0 ≤ n.cmp) && decide (n.cmp ≤ 5) && kindB n.v.kind && (n.v.kind != 3 || decide (n.v.s.size ≤ 64)))) := by show _ = _; simp [nodB, k1]
    clear k0 k1 k2 e0 e2
    by_cases c1 : 0 ≤ n.cmp
    · by_cases c2 : n.cmp ≤ 5
      · cases c3 : kindB n.v.kind with
        | false =>
          have K3 := hide c3
          clear c3
          go_enter Tryz.func157, Tryz.ntmps157
          go_wp2_with (first | (go_at_call 104; refine (vecKind_any _ _).mono ?_; rintro e w' ⟨rfl, rfl⟩; (try rw [K3.out])) | (go_at_call 180; refine (AH.out _).mono ?_; rintro e w' ⟨rfl, rfl⟩; (first | rw [K1.out] | rw [K2.out] | skip)))
          go_ret
          exact ⟨ret_bool (by rw [← HR.out]; rw [HX.out, K3.out]; simp), Step.of⟩
        | true =>
          have K3 := hide c3
          clear c3
          by_cases c4 : n.v.kind = 3
          · have c4' : (n.v.kind != 3) = false := by simpa using c4
            have C4 := hide c4'
            clear c4
            by_cases c5 : n.v.s.size ≤ 64
            · have c5' : (n.v.s.size : Int) ≤ 64 := by omega
              have C5 := hide c5
              go_enter Tryz.func157, Tryz.ntmps157
              go_wp2_with (first | (go_at_call 104; refine (vecKind_any _ _).mono ?_; rintro e w' ⟨rfl, rfl⟩; (try rw [K3.out])) | (go_at_call 180; refine (AH.out _).mono ?_; rintro e w' ⟨rfl, rfl⟩; (first | rw [K1.out] | rw [K2.out] | skip)))
              go_ret
              exact ⟨ret_bool (by rw [← HR.out]; rw [HX.out, K3.out, C4.out]; simp [c1, c2, C5.out]), Step.of⟩
            · have c5' : (64 : Int) < (n.v.s.size : Int) := by omega
              have C5 : Hid (decide (n.v.s.size ≤ 64) = false) := by show _ = _; simp; omega
              clear c5
              go_enter Tryz.func157, Tryz.ntmps157
              go_wp2_with (first | (go_at_call 104; refine (vecKind_any _ _).mono ?_; rintro e w' ⟨rfl, rfl⟩; (try rw [K3.out])) | (go_at_call 180; refine (AH.out _).mono ?_; rintro e w' ⟨rfl, rfl⟩; (first | rw [K1.out] | rw [K2.out] | skip)))
              go_ret
              exact ⟨ret_bool (by rw [← HR.out]; rw [HX.out, K3.out, C4.out, C5.out]; first | (simp; done) | (simp; omega)), Step.of⟩
          · have c4' : (n.v.kind != 3) = true := by simpa using c4
            have C4 := hide c4'
            clear c4
            go_enter Tryz.func157, Tryz.ntmps157
            go_wp2_with (first | (go_at_call 104; refine (vecKind_any _ _).mono ?_; rintro e w' ⟨rfl, rfl⟩; (try rw [K3.out])) | (go_at_call 180; refine (AH.out _).mono ?_; rintro e w' ⟨rfl, rfl⟩; (first | rw [K1.out] | rw [K2.out] | skip)))
            go_ret
            exact ⟨ret_bool (by rw [← HR.out]; rw [HX.out, K3.out, C4.out]; simp [c1, c2]), Step.of⟩
      · have c2' : 5 < n.cmp := by omega
        clear c2
        go_enter Tryz.func157, Tryz.ntmps157
        go_wp2_with (first | (go_at_call 104; refine (vecKind_any _ _).mono ?_; rintro e w' ⟨rfl, rfl⟩; (try rw [K3.out])) | (go_at_call 180; refine (AH.out _).mono ?_; rintro e w' ⟨rfl, rfl⟩; (first | rw [K1.out] | rw [K2.out] | skip)))
        go_ret
        exact ⟨ret_bool (by rw [← HR.out]; rw [HX.out]; simp; omega), Step.of⟩
    · have c1' : n.cmp < 0 := by omega
      clear c1
      go_enter Tryz.func157, Tryz.ntmps157
      go_wp2_with (first | (go_at_call 104; refine (vecKind_any _ _).mono ?_; rintro e w' ⟨rfl, rfl⟩; (try rw [K3.out])) | (go_at_call 180; refine (AH.out _).mono ?_; rintro e w' ⟨rfl, rfl⟩; (first | rw [K1.out] | rw [K2.out] | skip)))
      go_ret
      exact ⟨ret_bool (by rw [← HR.out]; rw [HX.out]; simp; omega), Step.of⟩
  have e1 : (n.kind == 1) = false := by simpa using k1
  by_cases k3 : n.kind = 3
  · rw [k3] at n0
    have HX : Hid (nodB n m = ahead n.l m) := by show _ = _; simp [nodB, k3]
    clear k0 k1 k2 k3 e0 e1 e2
    go_enter Tryz.func157, Tryz.ntmps157
    go_wp2_with (first | (go_at_call 104; refine (vecKind_any _ _).mono ?_; rintro e w' ⟨rfl, rfl⟩; (try rw [K3.out])) | (go_at_call 180; refine (AH.out _).mono ?_; rintro e w' ⟨rfl, rfl⟩; (first | rw [K1.out] | rw [K2.out] | skip)))
    go_ret
    exact ⟨ret_bool (by rw [← HR.out]; exact HX.out.symm), Step.of⟩
  have e3 : (n.kind == 3) = false := by simpa using k3
  by_cases k4 : n.kind = 4
  · rw [k4] at n0
    have HX : Hid (nodB n m = (ahead n.l m && ahead n.r m)) := by show _ = _; simp [nodB, k4]
    clear k0 k1 k2 k3 e0 e1 e2 e3 k4
    cases c1 : ahead n.l m with
    | false =>
      have K1 := hide c1
      clear c1
      go_enter Tryz.func157, Tryz.ntmps157
      go_wp2_with (first | (go_at_call 104; refine (vecKind_any _ _).mono ?_; rintro e w' ⟨rfl, rfl⟩; (try rw [K3.out])) | (go_at_call 180; refine (AH.out _).mono ?_; rintro e w' ⟨rfl, rfl⟩; (first | rw [K1.out] | rw [K2.out] | skip)))
      go_ret
      exact ⟨ret_bool (by rw [← HR.out]; rw [HX.out, K1.out]; rfl), Step.of⟩
    | true =>
      have K1 := hide c1
      clear c1
      go_enter Tryz.func157, Tryz.ntmps157
      go_wp2_with (first | (go_at_call 104; refine (vecKind_any _ _).mono ?_; rintro e w' ⟨rfl, rfl⟩; (try rw [K3.out])) | (go_at_call 180; refine (AH.out _).mono ?_; rintro e w' ⟨rfl, rfl⟩; (first | rw [K1.out] | rw [K2.out] | skip)))
      go_ret
      exact ⟨ret_bool (by rw [← HR.out]; rw [HX.out, K1.out]; simp), Step.of⟩
  have e4 : (n.kind == 4) = false := by simpa using k4
  by_cases k5 : n.kind = 5
  · rw [k5] at n0
    have HX : Hid (nodB n m = (ahead n.l m && ahead n.r m)) := by show _ = _; simp [nodB, k5]
    clear k0 k1 k2 k3 e0 e1 e2 e3 k4 e4 k5
    cases c1 : ahead n.l m with
    | false =>
      have K1 := hide c1
      clear c1
      go_enter Tryz.func157, Tryz.ntmps157
      go_wp2_with (first | (go_at_call 104; refine (vecKind_any _ _).mono ?_; rintro e w' ⟨rfl, rfl⟩; (try rw [K3.out])) | (go_at_call 180; refine (AH.out _).mono ?_; rintro e w' ⟨rfl, rfl⟩; (first | rw [K1.out] | rw [K2.out] | skip)))
      go_ret
      exact ⟨ret_bool (by rw [← HR.out]; rw [HX.out, K1.out]; rfl), Step.of⟩
    | true =>
      have K1 := hide c1
      clear c1
      go_enter Tryz.func157, Tryz.ntmps157
      go_wp2_with (first | (go_at_call 104; refine (vecKind_any _ _).mono ?_; rintro e w' ⟨rfl, rfl⟩; (try rw [K3.out])) | (go_at_call 180; refine (AH.out _).mono ?_; rintro e w' ⟨rfl, rfl⟩; (first | rw [K1.out] | rw [K2.out] | skip)))
      go_ret
      exact ⟨ret_bool (by rw [← HR.out]; rw [HX.out, K1.out]; simp), Step.of⟩
  have e5 : (n.kind == 5) = false := by simpa using k5
  have HX : Hid (nodB n m = false) := by show _ = _; simp [nodB, k0, k1, k2, k3, k4, k5]
  clear k0 k1 k2 k3 k4 k5
  go_enter Tryz.func157, Tryz.ntmps157
  go_wp2_with (first | (go_at_call 104; refine (vecKind_any _ _).mono ?_; rintro e w' ⟨rfl, rfl⟩; (try rw [K3.out])) | (go_at_call 180; refine (AH.out _).mono ?_; rintro e w' ⟨rfl, rfl⟩; (first | rw [K1.out] | rw [K2.out] | skip)))
  go_ret
  exact ⟨ret_bool (by rw [← HR.out]; exact HX.out.symm), Step.of⟩

set_option maxHeartbeats 1000000 in
theorem ppred_any {w0 : World} (ns : List Nod) (A : Option Addr) (cap : Nat) (w : World) (h : PrIn w0 ns A cap) [hf : Fut w0 w] :
    Calls Tryz.prog 123 #[.agg #[.slice A ns.length cap]] w fun e w' => e = .returned (.bool (predB ns)) ∧ Step w w' := by
  have hl := h.len
  have hz := hf.below.size
  by_cases h24 : ns.length ≤ 24
  · have HP : Hid (predB ns = nodsUpto ns ns.length) := by show _ = _; simp [predB, h24]
    have HB := hide (Blk.new w [.slice A ns.length cap] 34)
    rw [HP.out]
    go_enter Tryz.func123, Tryz.ntmps123
    go_wp2
    go_loopw [3, 11] (fun _ i wr => ∃ k : Nat, k ≤ ns.length ∧ i = .int .i64 k ∧ nodsUpto ns k = true ∧ Step (w.alloc (.cells #[.slice A ns.length cap] 34)) wr) (fun _ i _ => ns.length - (intOf i).toNat)
    case atStart => exact ⟨0, Nat.zero_le _, rfl, rfl, Step.of⟩
    case round =>
      obtain ⟨k, hk, rfl, hok, hst⟩ := hrel
      have HO := hide hok; clear hok
      have hs1 := hst.size
      simp only [hsz] at hs1
      have hs2 : w.heap.size < wr.heap.size := by omega
      have r0 := At.z1 (HB.out.fut (w' := wr)).at0
      by_cases hlt : k < ns.length
      · obtain ⟨b, off, rfl, hb, n, hn, hat⟩ := h.node (w' := wr) inferInstance hlt
        have HN := hide hn; clear hn
        have hm := fun w' [Fut wr w'] => pmayN_any b (off + k * 9) n k w' hat (by omega)
        cases hnb : nodB n k with
        | true =>
          rw [hnb] at hm
          have HM := hide hm; have HNB := hide hnb
          clear hm hnb hat
          go_wp2_with fail
          refine (HM.out _).mono ?_
          rintro e w2 ⟨rfl, hs⟩
          go_wp2_with fail
          go_roundw
          case rel => exact ⟨k + 1, by omega, by go_num, by rw [nodsUpto, HO.out, HN.out]; simp [HNB.out], Step.of⟩
          case measure => simp [intOf]; omega
        | false =>
          rw [hnb] at hm
          have HM := hide hm; have HNB := hide hnb
          clear hm hnb hat
          go_wp2_with fail
          refine (HM.out _).mono ?_
          rintro e w2 ⟨rfl, hs⟩
          go_wp2_with fail
          go_ret
          exact ⟨ret_bool (nodsUpto_bad HN.out HNB.out).symm, Step.of⟩
      · obtain rfl : k = ns.length := by omega
        go_wp2_with fail
        go_ret
        exact ⟨ret_bool HO.out.symm, Step.of⟩
  · have h25 : (24 : Int) < (ns.length : Int) := by omega
    have HP : Hid (predB ns = false) := by show _ = _; simp [predB]; omega
    clear h24
    rw [HP.out]
    go_enter Tryz.func123, Tryz.ntmps123
    go_wp2
    go_ret
    exact ⟨rfl, Step.of⟩
end Go.Proofs.YtnphokhehacfnaaGreatDoor

namespace Go.Proofs.YtnphokhehacfnaaGreatDoor
open Go.RowKit

/-- Column j, in whatever later world. -/
theorem SchIn.col {w w' : World} {s : Sch} {A : Option Addr} {cap : Nat} (h : SchIn w s A cap) (hf : Fut w w') {j : Nat} (hj : j < s.cols.length) :
    ∃ b off, A = some ⟨b, off, none⟩ ∧ b < w.heap.size ∧ At w' b (off + j * 3) s.cols[j].cells := by
  obtain ⟨b, off, e, hb, hc⟩ := h.at_.elem hf (k := j) (by simpa using hj)
  exact ⟨b, off, e, hb, hc j _ (by simp [hj])⟩
theorem nodE_skip {s : Sch} {n : Nod} (h1 : n.kind ≠ 1) (h2 : n.kind ≠ 2) : nodE s n = 0 := by rw [nodE, if_pos ⟨h1, h2⟩]
theorem nodE_none {s : Sch} {n : Nod} (h1 : n.kind = 1 ∨ n.kind = 2) (hi : idx (named n.col) s.cols < 0) : nodE s n = 1501 := by rw [nodE, if_neg (by omega), if_pos hi]
theorem nodE_two {s : Sch} {n : Nod} (h1 : n.kind = 2) (hi : ¬ idx (named n.col) s.cols < 0) : nodE s n = 0 := by rw [nodE, if_neg (by omega), if_neg hi, if_neg (by omega)]
theorem nodE_kind {s : Sch} {n : Nod} {j : Nat} (h1 : n.kind = 1) (hi : idx (named n.col) s.cols = (j : Int)) (hj : j < s.cols.length) : nodE s n = if n.v.kind = s.cols[j].kind then 0 else 1502 := by
  obtain ⟨e, _⟩ := idx_yes (p := named n.col) (l := s.cols) (by omega)
  have e2 : s.cols.findIdx (named n.col) = j := by omega
  rw [nodE, if_neg (by omega), if_neg (by omega), e2, List.getD_eq_getElem?_getD, List.getElem?_eq_getElem hj]
  simp only [Option.getD_some]
  by_cases h : n.v.kind = s.cols[j].kind
  · rw [if_neg (by simp [h]), if_pos h]
  · rw [if_pos ⟨h1, h⟩, if_neg h]
theorem ext_zero {s : Sch} {ns : List Nod} {k : Nat} {n : Nod} (h : ∀ i, i < k → ∀ m, ns[i]? = some m → nodE s m = 0) (hn : ns[k]? = some n) (h0 : nodE s n = 0) : ∀ i, i < k + 1 → ∀ m, ns[i]? = some m → nodE s m = 0 := by
  intro i hi m hm
  rcases Nat.lt_or_eq_of_le (Nat.le_of_lt_succ hi) with e | rfl
  · exact h i e m hm
  · rw [hn] at hm; injection hm with hm; subst hm; exact h0

set_option maxRecDepth 100000 in
set_option maxHeartbeats 8000000 in
theorem pcheck_any {w0 w1 : World} (ns : List Nod) (A : Option Addr) (cap : Nat) (s : Sch) (As : Option Addr) (cs : Nat) (w : World) (hp : PrIn w0 ns A cap) (hs : SchIn w1 s As cs) [f0 : Fut w0 w] [f1 : Fut w1 w] :
    Calls Tryz.prog 158 #[.agg #[.slice A ns.length cap], s.val As cs] w fun e w' => e = .returned (.int .i64 (checkE ns s)) ∧ Step w w' := by
  have hl := hp.len
  have hls := hs.len
  have z0 := f0.below.size; have z1 := f1.below.size
  obtain ⟨R, hR⟩ : ∃ R, checkE ns s = R := ⟨_, rfl⟩
  have HR := hide hR
  rw [hR]
  clear hR
  unfold Sch.val
  have HPB := hide ((Blk.new w [.slice A ns.length cap] 34).alloc (.cells #[.int .i64 s.id, .slice As s.cols.length cs, .int .i64 s.next] 24))
  have HSB := hide (Blk.new_at (w := w.alloc (.cells #[.slice A ns.length cap] 34)) (b := w.heap.size + 1) (by simp) [.int .i64 s.id, .slice As s.cols.length cs, .int .i64 s.next] 24)
  have pm := fun w' [Fut w0 w'] => ppred_any ns A cap w' hp
  have sm := fun w' [Fut w1 w'] => pmay s As cs w' hs
  unfold Sch.val at sm
  cases hpb : predB ns with
  | false =>
    have HX : Hid (checkE ns s = 1500) := by show _ = _; simp [checkE, hpb]
    rw [hpb] at pm
    have PM := hide pm
    clear pm sm hpb
    go_enter Tryz.func158, Tryz.ntmps158
    go_wp2_with fail
    refine (PM.out _).mono ?_
    rintro e w2 ⟨rfl, hs2⟩
    go_wp2_with fail
    go_ret
    exact ⟨ret_int (by rw [← HR.out, HX.out]), Step.of⟩
  | true =>
    rw [hpb] at pm
    have PM := hide pm; have HPT := hide hpb
    clear pm hpb
    cases hm : mayB s with
    | false =>
      have HX : Hid (checkE ns s = 1500) := by show _ = _; simp [checkE, hm]
      rw [hm] at sm
      have SM := hide sm
      clear sm hm
      go_enter Tryz.func158, Tryz.ntmps158
      go_wp2_with fail
      refine (PM.out _).mono ?_
      rintro e w2 ⟨rfl, hs2⟩
      obtain ⟨q0, q1, q2⟩ := At.z3 (HSB.out.fut (w' := w2)).at0
      have lq := (HSB.out.fut (w' := w2)).lt
      go_wp2_with fail
      refine (SM.out _).mono ?_
      rintro e w3 ⟨rfl, hs3⟩
      clear q0 q1 q2 lq
      go_wp2_with fail
      go_ret
      exact ⟨ret_int (by rw [← HR.out, HX.out]), Step.of⟩
    | true =>
      have HX : Hid (checkE ns s = firstE s ns) := by show _ = _; rw [checkE, if_pos ⟨HPT.out, hm⟩]
      rw [hm] at sm
      have SM := hide sm
      clear sm hm
      go_enter Tryz.func158, Tryz.ntmps158
      go_wp2_with fail
      refine (PM.out _).mono ?_
      rintro e w2 ⟨rfl, hs2⟩
      obtain ⟨q0, q1, q2⟩ := At.z3 (HSB.out.fut (w' := w2)).at0
      have lq := (HSB.out.fut (w' := w2)).lt
      go_wp2_with fail
      refine (SM.out _).mono ?_
      rintro e w3 ⟨rfl, hs3⟩
      clear q0 q1 q2 lq
      have p0 := At.z1 (HPB.out.fut (w' := w3)).at0
      have lp := (HPB.out.fut (w' := w3)).lt
      have z3 := hs3.size; have z2 := hs2.size
      simp only [hsz] at z2
      clear PM SM
      go_wp2_with fail
      clear p0 lp
      go_loopw [6, 7, 19] (fun _ _ i wr => ∃ k : Nat, k ≤ ns.length ∧ i = .int .i64 k ∧ Hid (∀ i, i < k → ∀ m, ns[i]? = some m → nodE s m = 0) ∧ Step w3 wr) (fun _ _ i _ => ns.length - (intOf i).toNat)
      case atStart => exact ⟨0, Nat.zero_le _, rfl, hide (fun i hi => absurd hi (Nat.not_lt_zero _)), Step.of⟩
      case round =>
        obtain ⟨k, hk, rfl, HO, hst⟩ := hrel
        have hs1 := hst.size
        by_cases hlt : k < ns.length
        · obtain ⟨b, off, rfl, hb, n, hn, hat⟩ := hp.node (w' := wr) inferInstance hlt
          have hlb : b < wr.heap.size := by omega
          have HN := hide hn; clear hn
          obtain ⟨n0, n1, n2, n3, n4, n5, n6, n7, n8⟩ := At.l9 hat
          clear hat
          obtain ⟨q0, q1, q2⟩ := At.z3 (HSB.out.fut (w' := wr)).at0
          have lq := (HSB.out.fut (w' := wr)).lt
          by_cases k12 : n.kind = 1 ∨ n.kind = 2
          · have fd := fun w' [Fut w1 w'] => pfind s As cs n.col w' hs
            unfold Sch.val at fd
            have FD := hide fd
            clear fd
            rcases idx_cases (named n.col) s.cols with hi | ⟨j, hi, hj⟩
            · have HE := hide (nodE_none (s := s) k12 (by omega))
              have fd := FD.out
              rw [hi] at fd
              have FD2 := hide fd
              clear FD fd hi
              rcases k12 with k1 | k1
              all_goals
                rw [k1] at n0
                clear k1
                go_wp2_with fail
                refine (FD2.out _).mono ?_
                rintro e w4 ⟨rfl, hs4⟩
                go_wp2_with fail
                go_ret
                exact ⟨ret_int (by rw [← HR.out, HX.out, firstE_hit s HN.out HO.out (by rw [HE.out]; decide), HE.out]), Step.of⟩
            · have fd := FD.out
              rw [hi] at fd
              have FD2 := hide fd
              have HI := hide hi
              clear FD fd hi
              rcases k12 with k1 | k1
              · have HE := hide (nodE_kind k1 HI.out hj)
                rw [k1] at n0
                clear k1
                have HNB := hide (Blk.new wr [.int .i64 1, .string n.col, .int .i64 n.cmp, .int .i64 n.v.kind, .int .i64 n.v.i, .bool n.v.b, .string n.v.s, .int .i64 n.l, .int .i64 n.r] 77)
                go_wp2_with fail
                refine (FD2.out _).mono ?_
                rintro e w4 ⟨rfl, hs4⟩
                clear q0 q1 q2 lq n0 n1 n2 n3 n4 n5 n6 n7 n8
                obtain ⟨q0, q1, q2⟩ := At.z3 (HSB.out.fut (w' := w4)).at0
                have lq := (HSB.out.fut (w' := w4)).lt
                obtain ⟨n0, n1, n2, n3, n4, n5, n6, n7, n8⟩ := At.z9 (HNB.out.fut (w' := w4)).at0
                have ln := (HNB.out.fut (w' := w4)).lt
                obtain ⟨bc, oc, rfl, hbc, hac⟩ := hs.col (w' := w4) inferInstance hj
                obtain ⟨c0, c1, c2⟩ := At.l3 hac
                have hlc : bc < w4.heap.size := by have := (fut w1 w4).size; omega
                have hj0 : (0 : Int) ≤ (j : Int) := by omega
                have hj1 : (j : Int) < (s.cols.length : Int) := by omega
                clear hac
                by_cases hkk : n.v.kind = s.cols[j].kind
                · have e1 : (n.v.kind != s.cols[j].kind) = false := by simpa using hkk
                  have HE2 : Hid (nodE s n = 0) := by show _ = _; rw [HE.out, if_pos hkk]
                  clear hkk
                  go_wp2_with fail
                  go_quiet (fail)
                  go_wp2_with fail
                  go_roundw
                  case rel => exact ⟨k + 1, by omega, by go_num, hide (ext_zero HO.out HN.out HE2.out), Step.of⟩
                  case measure => simp [intOf]; omega
                · have e1 : (n.v.kind != s.cols[j].kind) = true := by simpa using hkk
                  have HE2 : Hid (nodE s n = 1502) := by show _ = _; rw [HE.out, if_neg hkk]
                  clear hkk
                  go_wp2_with fail
                  go_quiet (fail)
                  go_wp2_with fail
                  go_ret
                  exact ⟨ret_int (by rw [← HR.out, HX.out, firstE_hit s HN.out HO.out (by rw [HE2.out]; decide), HE2.out]), Step.of⟩
              · have HE := hide (nodE_two (s := s) k1 (by rw [HI.out]; omega))
                rw [k1] at n0
                clear k1
                have HNB := hide (Blk.new wr [.int .i64 2, .string n.col, .int .i64 n.cmp, .int .i64 n.v.kind, .int .i64 n.v.i, .bool n.v.b, .string n.v.s, .int .i64 n.l, .int .i64 n.r] 77)
                go_wp2_with fail
                refine (FD2.out _).mono ?_
                rintro e w4 ⟨rfl, hs4⟩
                clear q0 q1 q2 lq n0 n1 n2 n3 n4 n5 n6 n7 n8
                obtain ⟨n0, n1, n2, n3, n4, n5, n6, n7, n8⟩ := At.z9 (HNB.out.fut (w' := w4)).at0
                have ln := (HNB.out.fut (w' := w4)).lt
                go_wp2_with fail
                go_quiet (fail)
                go_wp2_with fail
                go_roundw
                case rel => exact ⟨k + 1, by omega, by go_num, hide (ext_zero HO.out HN.out HE.out), Step.of⟩
                case measure => simp [intOf]; omega
          · have k1 : n.kind ≠ 1 := fun e => k12 (.inl e)
            have k2 : n.kind ≠ 2 := fun e => k12 (.inr e)
            have HE := hide (nodE_skip (s := s) k1 k2)
            have e1 : (n.kind != 1) = true := by simpa using k1
            have e2 : (n.kind != 2) = true := by simpa using k2
            clear k12 k1 k2
            go_wp2_with fail
            go_roundw
            case rel => exact ⟨k + 1, by omega, by go_num, hide (ext_zero HO.out HN.out HE.out), Step.of⟩
            case measure => simp [intOf]; omega
        · obtain rfl : k = ns.length := by omega
          go_wp2_with fail
          go_ret
          exact ⟨ret_int (by rw [← HR.out, HX.out, firstE_zero s HO.out]), Step.of⟩
end Go.Proofs.YtnphokhehacfnaaGreatDoor

namespace Go.Proofs.YtnphokhehacfnaaGreatDoor
open Go.RowKit

theorem checkE_inv {ns : List Nod} {s : Sch} (h : checkE ns s = 0) : predB ns = true ∧ mayB s = true ∧ ∀ n ∈ ns, nodE s n = 0 := by
  unfold checkE at h
  split at h
  · rename_i hp
    exact ⟨hp.1, hp.2, (firstE_zero_iff s).1 h⟩
  · cases h
theorem predB_iff {ns : List Nod} : predB ns = true ↔ ns.length ≤ 24 ∧ ∀ i n, ns[i]? = some n → nodB n i = true := by
  unfold predB
  rw [Bool.and_eq_true, decide_eq_true_eq, nodsUpto_iff]
  exact and_congr_right fun _ => ⟨fun h i n hn => h i (List.getElem?_eq_some_iff.1 hn).1 n hn, fun h i _ n hn => h i n hn⟩
def notN (l : Int) : Nod := ⟨3, .empty, 0, Val.zero, l, 0⟩
def andN (l r : Int) : Nod := ⟨4, .empty, 0, Val.zero, l, r⟩
def orN (l r : Int) : Nod := ⟨5, .empty, 0, Val.zero, l, r⟩
end Go.Proofs.YtnphokhehacfnaaGreatDoor

namespace Go.Proofs.YtnphokhehacfnaaGreatDoor
open Go.RowKit


/-- What Check gives of node k: its column's place, or those ahead that it names. -/
theorem node_col {ns : List Nod} {s : Sch} {k : Nat} {n : Nod} (h : checkE ns s = 0) (hn : ns[k]? = some n) (hk : n.kind = 1 ∨ n.kind = 2) : ∃ j : Nat, idx (named n.col) s.cols = (j : Int) ∧ j < s.cols.length ∧ s.cols.findIdx (named n.col) = j := by
  obtain ⟨_, _, h3⟩ := checkE_inv h
  have he := h3 n (List.mem_of_getElem? hn)
  rcases idx_cases (named n.col) s.cols with hi | ⟨j, hi, hj⟩
  · rw [nodE_none hk (by omega)] at he; cases he
  · obtain ⟨e, _⟩ := idx_yes (p := named n.col) (l := s.cols) (by omega)
    exact ⟨j, hi, hj, by omega⟩
theorem node_kinds {ns : List Nod} {s : Sch} {k : Nat} {n : Nod} (h : checkE ns s = 0) (hn : ns[k]? = some n) :
    n.kind = 0 ∨ (n.kind = 1 ∨ n.kind = 2) ∨ (n.kind = 3 ∧ ∃ l : Nat, n.l = l ∧ l < k) ∨ ((n.kind = 4 ∨ n.kind = 5) ∧ ∃ l r : Nat, n.l = l ∧ n.r = r ∧ l < k ∧ r < k) := by
  obtain ⟨h1, _, _⟩ := checkE_inv h
  have hb := (predB_iff.1 h1).2 k n hn
  unfold nodB ahead at hb
  split at hb
  · omega
  split at hb
  · omega
  split at hb
  · rename_i h3
    simp only [Bool.and_eq_true, decide_eq_true_eq] at hb
    exact .inr (.inr (.inl ⟨h3, n.l.toNat, by omega, by omega⟩))
  split at hb
  · rename_i h4
    simp only [Bool.and_eq_true, decide_eq_true_eq] at hb
    exact .inr (.inr (.inr ⟨h4, n.l.toNat, n.r.toNat, by omega, by omega, by omega, by omega⟩))
  · cases hb
theorem evalT_get {s : Sch} {vs : List Val} {ns : List Nod} {k l : Nat} (hk : k ≤ ns.length) (hl : l < k) : ∃ x, (evalT s vs (ns.take k))[l]? = some x ∧ (evalT s vs (ns.take k)).getD l 0 = x ∧ Tr x := by
  have hlen : (evalT s vs (ns.take k)).length = k := by rw [evalT_len]; simp; omega
  have hx : (evalT s vs (ns.take k))[l]? = some ((evalT s vs (ns.take k))[l]'(by omega)) := List.getElem?_eq_getElem (by omega)
  exact ⟨_, hx, by rw [List.getD_eq_getElem?_getD, hx]; rfl, evalT_tr s vs (ns.take k) _ (List.mem_of_getElem? hx)⟩
theorem lastT_snoc (l : List Int) (x : Int) : lastT (l ++ [x]) = x := by simp [lastT]
theorem step_true {s : Sch} {vs : List Val} {acc : List Int} {n : Nod} (h : n.kind = 0) : stepT s vs acc n = 1 := by simp [stepT, h]
theorem step_leaf {s : Sch} {vs : List Val} {acc : List Int} {n : Nod} {j : Nat} {v : Val} (h : n.kind = 1 ∨ n.kind = 2) (hj : s.cols.findIdx (named n.col) = j) (hv : vs[j]? = some v) : stepT s vs acc n = leafT n v := by
  rw [stepT, if_neg (by omega), if_pos h, hj, List.getD_eq_getElem?_getD, hv]
  rfl
theorem step_not {s : Sch} {vs : List Val} {acc : List Int} {n : Nod} {l : Nat} {x : Int} (h : n.kind = 3) (hl : n.l = l) (hx : acc.getD l 0 = x) : stepT s vs acc n = joinT 3 x x := by
  rw [stepT, if_neg (by omega), if_neg (by omega), if_pos h, hl, Int.toNat_natCast, hx]
theorem step_two {s : Sch} {vs : List Val} {acc : List Int} {n : Nod} {l r : Nat} {x y : Int} (h : n.kind = 4 ∨ n.kind = 5) (hl : n.l = l) (hr : n.r = r) (hx : acc.getD l 0 = x) (hy : acc.getD r 0 = y) : stepT s vs acc n = joinT n.kind x y := by
  rw [stepT, if_neg (by omega), if_neg (by omega), if_neg (by omega), hl, hr, Int.toNat_natCast, Int.toNat_natCast, hx, hy]

end Go.Proofs.YtnphokhehacfnaaGreatDoor

