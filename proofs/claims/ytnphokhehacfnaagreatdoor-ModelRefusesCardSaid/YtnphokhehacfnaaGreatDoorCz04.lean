/-
  Texts put together: C, Si, Ra, Rb, Ns, Ps, Pb.
-/
import Derived.Test.YtnphokhehacfnaaGreatDoorCz00
import Derived.Test.YtnphokhehacfnaaGreatDoorCz01
import Derived.Test.YtnphokhehacfnaaGreatDoorCz03
namespace Go.Proofs.YtnphokhehacfnaaGreatDoor
open Go.RowKit

def Sch.val (s : Sch) (A : Option Addr) (cap : Nat) : Value := .agg #[.int .i64 s.id, .slice A s.cols.length cap, .int .i64 s.next]

set_option maxHeartbeats 400000 in
theorem may_head (s : Sch) (A : Option Addr) (cap : Nat) (w : World) (hB : s.cols.length ≤ 4611686018427387904) (hH : ¬ headOk s) :
    Calls Tryz.prog 54 #[s.val A cap] w fun e w' => e = .returned (.bool false) ∧ Below w.heap.size w w' := by
  obtain ⟨id, cols, next⟩ := s
  simp only [Sch.val] at hB ⊢
  have HH := hide hH; clear hH
  go_enter Tryz.func54, Tryz.ntmps54
  go_wp2
  all_goals first
    | (go_ret; exact ⟨rfl, (Below.refl _ _).alloc (Nat.le_refl _) _⟩)
    | (exfalso; refine HH.out ?_; simp only [headOk]; omega)

set_option maxHeartbeats 2000000 in
theorem may_body (s : Sch) (A : Option Addr) (cap : Nat) (w : World) (hcap : s.cols.length ≤ cap) (_hcm : cap ≤ 9223372036854775807) (hat : SlAt w w.heap.size 3 A (s.cols.map Col.cells))
    (hnm : ∀ c ∈ s.cols, c.name.size ≤ 9223372036854775807) (hH : headOk s) :
    Calls Tryz.prog 54 #[s.val A cap] w fun e w' => e = .returned (.bool (okUpto s.next s.cols s.cols.length)) ∧ Below w.heap.size w w' := by
  obtain ⟨id, cols, next⟩ := s
  simp only [Sch.val, headOk] at hcap hat hnm hH ⊢
  obtain ⟨g1, g2, g3, g4, g5, g6⟩ := hH
  have HN := Lib.hid hnm; clear hnm
  have Q0 := At.new w [.int .i64 id, .slice A cols.length cap, .int .i64 next] 24
  have HQ := hide Q0; clear Q0
  go_enter Tryz.func54, Tryz.ntmps54
  go_wp2
  go_loopw [40] (fun i wr => ∃ k : Nat, k ≤ cols.length ∧ i = .int .i64 k ∧ okUpto next cols k = true ∧ Below (w.heap.size + 1) (w.alloc (.cells #[.int .i64 id, .slice A cols.length cap, .int .i64 next] 24)) wr) (fun i _ => cols.length - (intOf i).toNat)
  case atStart => exact ⟨0, Nat.zero_le _, rfl, rfl, Below.refl _ _⟩
  case round =>
    obtain ⟨wo, rfl⟩ : ∃ wo : World, wo = wr := ⟨_, rfl⟩
    obtain ⟨k, hk, rfl, hok, hbw⟩ := hrel
    have HO := hide hok; clear hok
    have hbw0 : Below w.heap.size w wo := (below_a1 w _).trans (hbw.mono (by omega))
    have hs1 : w.heap.size < wo.heap.size := by have := hbw.size; simp at this; omega
    by_cases hlt : k < cols.length
    · obtain ⟨b, off, rfl, hb, hc⟩ := hat.keep hbw0 (by simpa using Nat.lt_of_le_of_lt (Nat.zero_le _) hlt)
      have Hc := hide hc; clear hc
      obtain ⟨c, hcc⟩ : ∃ c, cols[k]? = some c := ⟨_, List.getElem?_eq_getElem hlt⟩
      have HC := hide hcc
      have hck := Hc.out k c.cells (by simp [hcc])
      obtain ⟨h1, h2, h3⟩ := At.l3 hck
      have hnk := HN.out c (List.mem_of_getElem? hcc)
      clear hcc hck
      obtain ⟨q0, q1, q2⟩ := At.z3 (HQ.out.below hbw (by omega))
      have t1 : b < wo.heap.size := by omega
      have HB := hide hbw; clear hbw
      cases hco : colOk next c with
      | false =>
        have Hco := hide hco; clear hco
        go_wp2_with (first
          | (go_at_call 103; refine (name_any _ _ hnk).mono ?_; rintro e w1 ⟨rfl, hb1⟩; obtain ⟨c1, f1⟩ := bcell hb1; have z1 := hb1.size; simp only [hsz] at z1; have z2 : wo.heap.size < w1.heap.size := (by omega); have z3 : w.heap.size < w1.heap.size := (by omega); have z4 : b < w1.heap.size := (by omega); clear z1; have H1 := hide hb1; clear hb1)
          | (go_at_call 104; refine (vecKind_any _ _).mono ?_; rintro e w1 ⟨rfl, rfl⟩))
        all_goals first
          | (go_ret; exact ⟨ret_bool (okUpto_bad hlt (okAt_of HC.out Hco.out)).symm, by first | exact hbw0.alloc (by omega) _ | exact (hbw0.alloc (by omega) _).trans (H1.out.mono (by simp; omega))⟩)
          | (exfalso
             have a1 : 1 ≤ c.id := by assumption
             have a2 : c.id < next := by assumption
             have a3 : nameB c.name = true := by assumption
             have a4 : (1 ≤ c.id ∧ c.id < next) ∧ (!kindB c.kind) = false := by assumption
             have a5 := Hco.out
             rw [colOk_yes a1 a2 a3 (by simpa using a4.2)] at a5
             cases a5)
      | true =>
        have Hco := hide hco
        obtain ⟨e1, e2, e3, e4⟩ := colOk_inv hco
        clear hco
        have E3 := hide e3; clear e3
        have E4 := hide e4; clear e4
        go_wp2_with (first
          | (go_at_call 103; refine (name_any _ _ hnk).mono ?_; rintro e w1 ⟨rfl, hb1⟩; rw [E3.out]; obtain ⟨c1, f1⟩ := bcell hb1; have z1 := hb1.size; simp only [hsz] at z1; have z2 : wo.heap.size < w1.heap.size := (by omega); have z3 : w.heap.size < w1.heap.size := (by omega); have z4 : b < w1.heap.size := (by omega); clear z1; have H1 := hide hb1; clear hb1)
          | (go_at_call 104; refine (vecKind_any _ _).mono ?_; rintro e w1 ⟨rfl, rfl⟩; rw [E4.out]))
        have hb01 : Below w.heap.size w w1 := (hbw0.alloc (by omega) _).trans (H1.out.mono (by rw [hsz]; omega))
        have HA := hide ((At.new wo c.cells 90).below H1.out (by rw [hsz]; omega))
        clear h1 h2 h3 q0 q1 q2 c1 f1
        go_loopw [72] (fun i wi => ∃ j : Nat, j ≤ k ∧ i = .int .i64 j ∧ (cols.take j).any (clash c) = false ∧ Below w1.heap.size w1 wi) (fun i _ => k - (intOf i).toNat)
        case atStart => exact ⟨0, Nat.zero_le _, rfl, rfl, Below.refl _ _⟩
        case round =>
          obtain ⟨j, hj, rfl, hcl, hbi⟩ := hrel
          have HCL := hide hcl; clear hcl
          have hsi : w1.heap.size ≤ wr.heap.size := hbi.size
          have HBI := hide hbi; clear hbi
          by_cases hjk : j < k
          · obtain ⟨d, hdd⟩ : ∃ d, cols[j]? = some d := ⟨_, List.getElem?_eq_getElem (by omega)⟩
            have HD := hide hdd
            obtain ⟨b', off', hA', _, hcd⟩ := hat.keep (hb01.trans (HBI.out.mono (by omega))) (by simpa using Nat.lt_of_le_of_lt (Nat.zero_le _) hlt)
            obtain ⟨rfl, rfl⟩ : b = b' ∧ off = off' := by simpa using hA'
            obtain ⟨h1, h2, h3⟩ := At.l3 (hcd j d.cells (by simp [hdd]))
            obtain ⟨p0, p1, _⟩ := At.z3 (HA.out.below HBI.out (by omega))
            clear hdd hcd hA'
            have y1 : b < wr.heap.size := by omega
            have y2 : wo.heap.size < wr.heap.size := by omega
            have hget : cols[j]'(by omega) = d := by
              have := HD.out
              rw [List.getElem?_eq_getElem (by omega)] at this
              exact Option.some.inj this
            have HG := hide hget; clear hget
            go_wp2
            · go_ret
              exact ⟨ret_bool (okUpto_bad hlt (okAt_clash HC.out (any_take_yes _ _ j k hjk (by omega) (by rw [HG.out]; exact clash_id (by assumption))))).symm,
                (hb01.trans (HBI.out.mono (by omega))).alloc (by omega) _⟩
            · go_ret
              exact ⟨ret_bool (okUpto_bad hlt (okAt_clash HC.out (any_take_yes _ _ j k hjk (by omega) (by rw [HG.out]; exact clash_or (by assumption))))).symm,
                (hb01.trans (HBI.out.mono (by omega))).alloc (by omega) _⟩
            · go_roundw
              case rel =>
                exact ⟨j + 1, by omega, by go_num, by rw [any_take_succ _ _ _ (by omega), HCL.out, HG.out, clash_no (by assumption)]; rfl, HBI.out.alloc (by omega) _⟩
              case measure => simp [intOf]; omega
          · obtain rfl : j = k := by omega
            go_wp2
            go_roundw
            case rel =>
              refine ⟨j + 1, by omega, by go_num, ?_, ?_⟩
              · simp only [okUpto, HO.out, Bool.true_and]
                exact okAt_yes HC.out Hco.out HCL.out
              · exact ((HB.out.alloc (by omega) _).trans (H1.out.mono (by rw [hsz]; omega))).trans (HBI.out.mono (by omega))
            case measure => simp [intOf]; omega
    · go_wp2_with fail
      go_ret
      obtain rfl : k = cols.length := by omega
      exact ⟨ret_bool HO.out.symm, hbw0⟩
theorem may_any (s : Sch) (A : Option Addr) (cap : Nat) (w : World) (hcap : s.cols.length ≤ cap) (hcm : cap ≤ 9223372036854775807) (hB : s.cols.length ≤ 4398046511103) (hat : SlAt w w.heap.size 3 A (s.cols.map Col.cells))
    (hnm : ∀ c ∈ s.cols, c.name.size ≤ 9223372036854775807) :
    Calls Tryz.prog 54 #[s.val A cap] w fun e w' => e = .returned (.bool (mayB s)) ∧ Below w.heap.size w w' := by
  by_cases h : headOk s
  · refine (may_body s A cap w hcap hcm hat hnm h).mono fun e w' ⟨he, hb⟩ => ⟨?_, hb⟩
    rw [he]
    exact ret_bool (by simp [mayB, h])
  · refine (may_head s A cap w (by omega) h).mono fun e w' ⟨he, hb⟩ => ⟨?_, hb⟩
    rw [he]
    exact ret_bool (by simp [mayB, h])
end Go.Proofs.YtnphokhehacfnaaGreatDoor

namespace Go.Proofs.YtnphokhehacfnaaGreatDoor
open Go.RowKit

/-- The call answers the schema and the error r; the schema's columns lie in new memory. -/
def SchRes (w : World) (r : Sch × Int) (e : Ending) (w' : World) : Prop :=
  ∃ (A : Option Addr) (cap : Nat), e = .returned (.tuple #[r.1.val A cap, .int .i64 r.2]) ∧ r.1.cols.length ≤ cap ∧ cap ≤ maxLen ∧
    Own w' w.heap.size 90 3 (.slice A r.1.cols.length cap) (r.1.cols.map Col.cells) ∧ Below w.heap.size w w'

/-- Stored into the result's own block. -/
theorem SchRes.store {w w0 w' : World} {r : Nat} {s : Sch} {n : Int} {A : Option Addr} {cap : Nat} {a b c : Value} (h1 : s.cols.length ≤ cap) (h2 : cap ≤ maxLen) (hown : Own w' w0.heap.size 90 3 (.slice A s.cols.length cap) (s.cols.map Col.cells))
    (hb : Below w.heap.size w w') (h0 : w.heap.size ≤ w0.heap.size) (hr : Blk w' r 24 [a, b, c]) (hlt : w.heap.size ≤ r) :
    SchRes w (s, n) (.returned (.tuple #[s.val A cap, .int .i64 n])) (((w'.setCell ⟨r, 0, none⟩ (.int .i64 s.id)).setCell ⟨r, 1, none⟩ (.slice A s.cols.length cap)).setCell ⟨r, 2, none⟩ (.int .i64 s.next)) :=
  ⟨A, cap, rfl, h1, h2, (hown.more h0).store3 hr (by decide) _ _ _, below3 hb hlt _ _ _⟩
theorem SchRes.err {w w' : World} {n : Int} (hb : Below w.heap.size w w') : SchRes w (Sch.zero, n) (.returned (.tuple #[.agg #[.int .i64 0, .slice none 0 0, .int .i64 0], .int .i64 n])) w' :=
  ⟨none, 0, rfl, Nat.le_refl _, by simp [maxLen], Own.nil_ _ _ _ _, hb⟩

/-- What every call of the schema's functions asks of a schema that is handed in. -/
structure SchIn (w : World) (s : Sch) (A : Option Addr) (cap : Nat) : Prop where
  hcap : s.cols.length ≤ cap
  hcapm : cap ≤ 9223372036854775807
  len : s.cols.length ≤ 4398046511102
  at_ : SlAt w w.heap.size 3 A (s.cols.map Col.cells)
  names : ∀ c ∈ s.cols, c.name.size ≤ 9223372036854775807
theorem SchIn.al {w : World} {s : Sch} {A : Option Addr} {cap : Nat} (h : SchIn w s A cap) (o : Obj) : SchIn (w.alloc o) s A cap := ⟨h.hcap, h.hcapm, h.len, h.at_.al o, h.names⟩
theorem SchIn.below {w w' : World} {s : Sch} {A : Option Addr} {cap : Nat} (h : SchIn w s A cap) (hb : Below w.heap.size w w') : SchIn w' s A cap := ⟨h.hcap, h.hcapm, h.len, (h.at_.keep hb).more hb.size, h.names⟩
theorem SchIn.may {w : World} {s : Sch} {A : Option Addr} {cap : Nat} (h : SchIn w s A cap) : Calls Tryz.prog 54 #[s.val A cap] w fun e w' => e = .returned (.bool (mayB s)) ∧ Below w.heap.size w w' :=
  may_any s A cap w h.hcap h.hcapm (by have := h.len; omega) h.at_ h.names
theorem SchIn.find {w : World} {s : Sch} {A : Option Addr} {cap : Nat} (h : SchIn w s A cap) (nm : ByteArray) : Calls Tryz.prog 125 #[s.val A cap, .string nm] w fun e w' => e = .returned (.int .i64 (idx (named nm) s.cols)) ∧ Below w.heap.size w w' :=
  find_any s.id s.next A cap s.cols nm w (by have := h.len; omega) h.at_

/-- A variable of a schema's type: its block, and what it leads to. -/
structure SV (w : World) (g : Nat) (s : Sch) (A : Option Addr) (cap : Nat) : Prop where
  blk : Blk w g 24 [.int .i64 s.id, .slice A s.cols.length cap, .int .i64 s.next]
  sin : SchIn w s A cap
theorem SV.after {w w' : World} {g : Nat} {s : Sch} {A : Option Addr} {cap : Nat} (h : SV w g s A cap) (hb : Below w.heap.size w w') : SV w' g s A cap := ⟨h.blk.below hb h.blk.lt, h.sin.below hb⟩
theorem SV.al {w : World} {g : Nat} {s : Sch} {A : Option Addr} {cap : Nat} (h : SV w g s A cap) (o : Obj) : SV (w.alloc o) g s A cap := ⟨h.blk.alloc o, h.sin.al o⟩
theorem mayB_head {s : Sch} (h : mayB s = true) : headOk s := by
  simp only [mayB, Bool.and_eq_true, decide_eq_true_eq] at h
  exact h.1
end Go.Proofs.YtnphokhehacfnaaGreatDoor

namespace Go.Proofs.YtnphokhehacfnaaGreatDoor
open Go.RowKit

theorem SchIn.fut {w w' : World} {s : Sch} {A : Option Addr} {cap : Nat} (h : SchIn w s A cap) [k : Fut w w'] : SchIn w' s A cap := ⟨h.hcap, h.hcapm, h.len, h.at_.fut, h.names⟩

theorem rkind_any (k : Int) (w : World) : Calls Tryz.prog 112 #[.int .i64 k] w fun e w' => e = .returned (.bool (kindB k)) ∧ w = w' := by
  go_enter Tryz.func112, Tryz.ntmps112
  go_wp2
  all_goals
    go_ret
    exact ⟨ret_bool (by simp [kindB]; try omega), rfl⟩

def fineU (x : Nat) : Bool := (decide (97 ≤ x) && decide (x ≤ 122) || decide (48 ≤ x) && decide (x ≤ 57)) || decide (x = 95)
theorem set_fineU : ∀ n, n < 256 → nameSet.contains (UInt8.ofNat n) = fineU n := by decide +kernel
theorem fineU_iff (c : UInt8) : nameSet.contains c = true ↔ (97 ≤ c.toNat ∧ c.toNat ≤ 122 ∨ 48 ≤ c.toNat ∧ c.toNat ≤ 57) ∨ c.toNat = 95 := by
  have h := set_fineU c.toNat c.toNat_lt
  rw [UInt8.ofNat_toNat] at h
  rw [h]
  simp [fineU]
theorem all_drop {α : Type} (p : α → Bool) (l : List α) (k : Nat) (h : k < l.length) : (l.drop k).all p = (p l[k] && (l.drop (k + 1)).all p) := by
  rw [List.drop_eq_getElem_cons h, List.all_cons]

set_option maxHeartbeats 1000000 in
theorem rname_any (s : ByteArray) (w : World) : Calls Tryz.prog 111 #[.string s] w fun e w' => e = .returned (.bool (nameB s)) ∧ w = w' := by
  by_cases h1 : 1 ≤ s.size
  · by_cases h2 : s.size ≤ 16
    · obtain ⟨R, hR⟩ : ∃ R, nameB s = R := ⟨_, rfl⟩
      have h0 : (s.data.toList.drop 0).all (nameSet.contains ·) = R := by rw [← hR]; simp [nameB, h1, h2]
      have HR := hide hR
      rw [HR.out]
      clear hR
      have H0 := hide h0; clear h0
      go_enter Tryz.func111, Tryz.ntmps111
      go_wp2
      go_loop [3, 4] (fun i _ => ∃ k : Nat, k ≤ s.size ∧ i = .int .i64 k ∧ (s.data.toList.drop k).all (nameSet.contains ·) = R) (fun i _ => s.size - (intOf i).toNat)
      case atStart => exact ⟨0, Nat.zero_le _, rfl, H0.out⟩
      case round =>
        obtain ⟨k, hk, rfl, hal⟩ := hrel
        have HA := hide hal; clear hal
        by_cases hlt : k < s.size
        · have hd := all_drop (nameSet.contains ·) s.data.toList k (by simpa using hlt)
          have HD := hide hd; clear hd
          have hfi := fineU_iff s[k]
          have HF := hide hfi; clear hfi
          have hs : (s.data.toList[k]'(by simpa using hlt)) = s[k] := rfl
          have HS := hide hs; clear hs
          cases hx : nameSet.contains s[k] with
          | true =>
            have HX := hide hx; clear hx
            have hy := HF.out.1 HX.out
            go_wp2
            all_goals first
              | (exfalso; omega)
              | (exfalso; simp at *; omega)
              | (go_round
                 case rel => exact ⟨k + 1, by omega, by go_num, by have := HA.out; rw [HD.out, HS.out, HX.out, Bool.true_and] at this; exact this⟩
                 case measure => simp [intOf]; omega)
          | false =>
            have HX := hide hx; clear hx
            have hy : ¬ ((97 ≤ s[k].toNat ∧ s[k].toNat ≤ 122 ∨ 48 ≤ s[k].toNat ∧ s[k].toNat ≤ 57) ∨ s[k].toNat = 95) := fun h => by have := HF.out.2 h; rw [HX.out] at this; cases this
            have hr : R = false := by have := HA.out; rw [HD.out, HS.out, HX.out, Bool.false_and] at this; exact this.symm
            have HRF := hide hr; clear hr
            go_wp2
            all_goals first
              | (exfalso; omega)
              | (exfalso; simp at *; omega)
              | (go_ret; exact ⟨ret_bool HRF.out.symm, rfl⟩)
        · obtain rfl : k = s.size := by omega
          go_wp2
          go_ret
          exact ⟨ret_bool (by rw [← HA.out, List.drop_of_length_le (by simp)]; rfl), rfl⟩
    · have h3 : 16 < s.size := by omega
      clear h2
      go_enter Tryz.func111, Tryz.ntmps111
      go_wp2
      go_ret
      exact ⟨ret_bool (by simp [nameB]; omega), rfl⟩
  · have h3 : s.size = 0 := by omega
    clear h1
    go_enter Tryz.func111, Tryz.ntmps111
    go_wp2
    go_ret
    exact ⟨ret_bool (by simp [nameB, h3]), rfl⟩
end Go.Proofs.YtnphokhehacfnaaGreatDoor

namespace Go.Proofs.YtnphokhehacfnaaGreatDoor
open Go.RowKit

def rheadOk (s : Sch) : Prop := 0 ≤ s.id ∧ s.id ≤ 2147483647 ∧ s.next ≤ 2147483647 ∧ 1 ≤ s.cols.length ∧ s.cols.length ≤ 12
instance (s : Sch) : Decidable (rheadOk s) := by unfold rheadOk; infer_instance
theorem mayB_r (s : Sch) : mayB s = (decide (rheadOk s) && okUpto s.next s.cols s.cols.length) := by
  unfold mayB
  cases ho : okUpto s.next s.cols s.cols.length with
  | false => simp
  | true =>
    simp only [Bool.and_true]
    rw [decide_eq_decide]
    unfold headOk rheadOk
    constructor
    · rintro ⟨a, b, c, d, e, f⟩; exact ⟨a, b, f, c, d⟩
    · rintro ⟨a, b, f, c, d⟩
      refine ⟨a, b, c, d, ?_, f⟩
      have h1 := okUpto_le (k := 1) c ho
      simp only [okUpto, Bool.true_and] at h1
      obtain ⟨x, hx⟩ : ∃ x, s.cols[0]? = some x := ⟨_, List.getElem?_eq_getElem c⟩
      simp only [okAt, hx, Bool.and_eq_true] at h1
      have := colOk_inv h1.1
      omega

set_option maxHeartbeats 400000 in
theorem rmay_head (s : Sch) (A : Option Addr) (cap : Nat) (w : World) (hB : s.cols.length ≤ 4611686018427387904) (hH : ¬ rheadOk s) :
    Calls Tryz.prog 57 #[s.val A cap] w fun e w' => e = .returned (.bool false) ∧ Step w w' := by
  obtain ⟨id, cols, next⟩ := s
  simp only [Sch.val] at hB ⊢
  have HH := hide hH; clear hH
  go_enter Tryz.func57, Tryz.ntmps57
  go_wp2
  all_goals first
    | (go_ret; exact ⟨rfl, Step.of⟩)
    | (exfalso; refine HH.out ?_; simp only [rheadOk]; omega)

set_option maxHeartbeats 2000000 in
theorem rmay_body {w0 : World} (s : Sch) (A : Option Addr) (cap : Nat) (w : World) (h : SchIn w0 s A cap) [hf : Fut w0 w] (hH : rheadOk s) :
    Calls Tryz.prog 57 #[s.val A cap] w fun e w' => e = .returned (.bool (okUpto s.next s.cols s.cols.length)) ∧ Step w w' := by
  have hat := h.at_
  have z0 := hf.below.size
  obtain ⟨id, cols, next⟩ := s
  simp only [Sch.val, rheadOk] at hat hH ⊢
  obtain ⟨g1, g2, g3, g4, g5⟩ := hH
  have HQ := hide (Blk.new w [.int .i64 id, .slice A cols.length cap, .int .i64 next] 24)
  go_enter Tryz.func57, Tryz.ntmps57
  go_wp2
  go_loopw [3, 4, 5] (fun i _ _ wr => ∃ k : Nat, k ≤ cols.length ∧ i = .int .i64 k ∧ okUpto next cols k = true ∧ Step (w.alloc (.cells #[.int .i64 id, .slice A cols.length cap, .int .i64 next] 24)) wr) (fun i _ _ _ => cols.length - (intOf i).toNat)
  case atStart => exact ⟨0, Nat.zero_le _, rfl, rfl, Step.of⟩
  case round =>
    obtain ⟨wo, rfl⟩ : ∃ wo : World, wo = wr := ⟨_, rfl⟩
    obtain ⟨k, hk, rfl, hok, hst⟩ := hrel
    have HO := hide hok; clear hok
    have hs1 := hst.size
    simp only [hsz] at hs1
    have hs2 : w.heap.size < wo.heap.size := by omega
    obtain ⟨q0, q1, q2⟩ := At.z3 (HQ.out.fut (w' := wo)).at0
    by_cases hlt : k < cols.length
    · obtain ⟨b, off, rfl, hb, hc⟩ := hat.elem (w' := wo) inferInstance (k := k) (by simpa using hlt)
      obtain ⟨c, hcc⟩ : ∃ c, cols[k]? = some c := ⟨_, List.getElem?_eq_getElem hlt⟩
      have HC := hide hcc
      obtain ⟨h1, h2, h3⟩ := At.l3 (hc k c.cells (by simp [hcc]))
      have hs3 : b < wo.heap.size := by omega
      clear hcc hc
      have HA := hide (Blk.new wo [.int .i64 c.id, .string c.name, .int .i64 c.kind] 90)
      cases hco : colOk next c with
      | false =>
        have Hco := hide hco; clear hco
        obtain ⟨E3, E4⟩ : Hid (nameB c.name = nameB c.name) ∧ Hid (kindB c.kind = kindB c.kind) := ⟨rfl, rfl⟩
        by_cases e1 : 1 ≤ c.id
        · by_cases e2 : c.id < next
          · cases e3 : nameB c.name with
            | true =>
              cases e4 : kindB c.kind with
              | true => have a5 := Hco.out; rw [colOk_yes e1 e2 e3 e4] at a5; cases a5
              | false =>
                clear E3 E4
                have E3 := hide e3; clear e3
                have E4 := hide e4; clear e4
                go_wp2_with (first
                  | (go_at_call 111; refine (rname_any _ _).mono ?_; rintro e w1 ⟨rfl, rfl⟩; rw [E3.out])
                  | (go_at_call 112; refine (rkind_any _ _).mono ?_; rintro e w1 ⟨rfl, rfl⟩; rw [E4.out]))
                go_ret
                exact ⟨ret_bool (okUpto_bad hlt (okAt_of HC.out Hco.out)).symm, Step.of⟩
            | false =>
              clear E3
              have E3 := hide e3; clear e3
              go_wp2_with (first
                | (go_at_call 111; refine (rname_any _ _).mono ?_; rintro e w1 ⟨rfl, rfl⟩; rw [E3.out])
                | (go_at_call 112; refine (rkind_any _ _).mono ?_; rintro e w1 ⟨rfl, rfl⟩; rw [E4.out]))
              go_ret
              exact ⟨ret_bool (okUpto_bad hlt (okAt_of HC.out Hco.out)).symm, Step.of⟩
          · have e5 : next ≤ c.id := by omega
            clear e2
            go_wp2_with (first
              | (go_at_call 111; refine (rname_any _ _).mono ?_; rintro e w1 ⟨rfl, rfl⟩; rw [E3.out])
              | (go_at_call 112; refine (rkind_any _ _).mono ?_; rintro e w1 ⟨rfl, rfl⟩; rw [E4.out]))
            go_ret
            exact ⟨ret_bool (okUpto_bad hlt (okAt_of HC.out Hco.out)).symm, Step.of⟩
        · have e5 : c.id < 1 := by omega
          clear e1
          go_wp2_with (first
            | (go_at_call 111; refine (rname_any _ _).mono ?_; rintro e w1 ⟨rfl, rfl⟩; rw [E3.out])
            | (go_at_call 112; refine (rkind_any _ _).mono ?_; rintro e w1 ⟨rfl, rfl⟩; rw [E4.out]))
          go_ret
          exact ⟨ret_bool (okUpto_bad hlt (okAt_of HC.out Hco.out)).symm, Step.of⟩
      | true =>
        have Hco := hide hco
        obtain ⟨e1, e2, e3, e4⟩ := colOk_inv hco
        clear hco
        have E3 := hide e3; clear e3
        have E4 := hide e4; clear e4
        go_wp2_with (first
          | (go_at_call 111; refine (rname_any _ _).mono ?_; rintro e w1 ⟨rfl, rfl⟩; rw [E3.out])
          | (go_at_call 112; refine (rkind_any _ _).mono ?_; rintro e w1 ⟨rfl, rfl⟩; rw [E4.out]))
        clear h1 h2 h3 q0 q1 q2
        go_loopw [5] (fun i wi => ∃ j : Nat, j ≤ k ∧ i = .int .i64 j ∧ (cols.take j).any (clash c) = false ∧ Step (wo.alloc (.cells #[.int .i64 c.id, .string c.name, .int .i64 c.kind] 90)) wi) (fun i _ => k - (intOf i).toNat)
        case atStart => exact ⟨0, Nat.zero_le _, rfl, rfl, Step.of⟩
        case round =>
          obtain ⟨j, hj, rfl, hcl, hsi⟩ := hrel
          have HCL := hide hcl; clear hcl
          obtain ⟨q0, q1, q2⟩ := At.z3 (HQ.out.fut (w' := wr)).at0
          obtain ⟨p0, p1, _⟩ := At.z3 (HA.out.fut (w' := wr)).at0
          by_cases hjk : j < k
          · obtain ⟨d, hdd⟩ : ∃ d, cols[j]? = some d := ⟨_, List.getElem?_eq_getElem (by omega)⟩
            have HD := hide hdd
            obtain ⟨b', off', hA', _, hcd⟩ := hat.elem (w' := wr) inferInstance (k := j) (by simp; omega)
            obtain ⟨rfl, rfl⟩ : b = b' ∧ off = off' := by simpa using hA'
            obtain ⟨h1, h2, h3⟩ := At.l3 (hcd j d.cells (by simp [hdd]))
            clear hdd hcd hA'
            have hget : cols[j]'(by omega) = d := by
              have := HD.out
              rw [List.getElem?_eq_getElem (by omega)] at this
              exact Option.some.inj this
            have HG := hide hget; clear hget
            have hjl : j < cols.length := by omega
            cases hd1 : (d.id == c.id) with
            | true =>
              go_wp2
              go_quiet (fail)
              go_wp2
              go_ret
              exact ⟨ret_bool (okUpto_bad hlt (okAt_clash HC.out (any_take_yes _ _ j k hjk (by omega) (by rw [HG.out]; exact clash_id (by simpa using hd1))))).symm, Step.of⟩
            | false =>
              cases hd2 : (d.name.toList == c.name.toList) with
              | true =>
                go_wp2
                go_quiet (fail)
                go_wp2
                go_ret
                exact ⟨ret_bool (okUpto_bad hlt (okAt_clash HC.out (any_take_yes _ _ j k hjk (by omega) (by rw [HG.out]; exact clash_or (.inr hd2))))).symm, Step.of⟩
              | false =>
                go_wp2
                go_quiet (fail)
                go_wp2
                go_roundw
                case rel =>
                  exact ⟨j + 1, by omega, by go_num, by rw [any_take_succ _ _ _ (by omega), HCL.out, HG.out, clash_no ⟨hd1, hd2⟩]; rfl, Step.of⟩
                case measure => simp [intOf]; omega
          · obtain rfl : j = k := by omega
            go_wp2
            go_roundw
            case rel =>
              refine ⟨j + 1, by omega, by go_num, ?_, Step.of⟩
              simp only [okUpto, HO.out, Bool.true_and]
              exact okAt_yes HC.out Hco.out HCL.out
            case measure => simp [intOf]; omega
    · go_wp2_with fail
      go_ret
      obtain rfl : k = cols.length := by omega
      exact ⟨ret_bool HO.out.symm, Step.of⟩
theorem rmay_any {w0 : World} (s : Sch) (A : Option Addr) (cap : Nat) (w : World) (h : SchIn w0 s A cap) [hf : Fut w0 w] :
    Calls Tryz.prog 57 #[s.val A cap] w fun e w' => e = .returned (.bool (mayB s)) ∧ Step w w' := by
  rw [mayB_r]
  by_cases hH : rheadOk s
  · rw [decide_eq_true hH, Bool.true_and]
    exact rmay_body s A cap w h hH
  · rw [decide_eq_false hH, Bool.false_and]
    exact rmay_head s A cap w (by have := h.len; omega) hH
end Go.Proofs.YtnphokhehacfnaaGreatDoor

namespace Go.Proofs.YtnphokhehacfnaaGreatDoor
open Go.RowKit

/-- What the document's NewSchema answers. -/
def rnewR (ns : List ByteArray) (ks : List Int) : Sch × Int := if ns.length ≠ ks.length then (Sch.zero, 1200) else nextR ⟨0, newCols ns ks 0, ns.length + 1⟩
set_option maxRecDepth 10000 in
set_option maxHeartbeats 4000000 in
theorem rnew_any (ns : List ByteArray) (ks : List Int) (An Ak : Option Addr) (cn ck : Nat) {wn wk : World} (w : World) (hn : SlAt wn wn.heap.size 1 An (strCells ns)) (hk : SlAt wk wk.heap.size 1 Ak (intCells ks)) [fn : Fut wn w] [fk : Fut wk w]
    (hns : (ns.length + 2) * 32 ≤ 140737488355328) (hnm : ∀ n ∈ ns, n.size ≤ 9223372036854775807) :
    Calls Tryz.prog 73 #[.slice An ns.length cn, .slice Ak ks.length ck] w (SchRes w (rnewR ns ks)) := by
  by_cases hl : ns.length = ks.length
  · have HL := hide hl
    have HKL := hide hl.symm
    clear hl
    rw [HKL.out]
    have HLN := hide (newCols_length ns ks 0 HL.out)
    go_enter Tryz.func73, Tryz.ntmps73
    go_wp2
    have HF1 := hide (((Blks.nil_ w).push 24 [.int .i64 0, .slice none 0 0, .int .i64 0]).push 24 [.int .i64 0, .slice none 0 0, .int .i64 (ns.length + 1)])
    simp only [hsz] at HF1
    go_loopw [7] (fun i wr => ∃ (k : Nat) (A' : Option Addr) (cap' : Nat), k ≤ ns.length ∧ i = .int .i64 k ∧ Blk wr (w.heap.size + 1) 24 [.int .i64 0, .slice A' k cap', .int .i64 (ns.length + 1)] ∧ k ≤ cap' ∧ cap' ≤ maxLen ∧
        Own wr (w.heap.size + 2) 90 3 (.slice A' k cap') (((newCols ns ks 0).take k).map Col.cells) ∧ Blk wr w.heap.size 24 [.int .i64 0, .slice none 0 0, .int .i64 0] ∧ Step w wr ∧ w.heap.size + 2 ≤ wr.heap.size)
      (fun i _ => ns.length - (intOf i).toNat)
    case atStart =>
      obtain ⟨b1, b0, _⟩ := HF1.out
      exact ⟨0, none, 0, Nat.zero_le _, rfl, b1, Nat.le_refl _, by simp [maxLen], by simpa using Own.nil_ _ _ _ _, b0, Step.of, by simp⟩
    case round =>
      obtain ⟨k, A', cap', hk1, rfl, hp, hc1, hc2, hown, hr, hst, hz⟩ := hrel
      have HR := hide hr; clear hr
      have HBW := hide hst.below
      by_cases hlt : k < ns.length
      · obtain ⟨nm, hnm1⟩ : ∃ nm, ns[k]? = some nm := ⟨_, List.getElem?_eq_getElem hlt⟩
        obtain ⟨kd, hkd1⟩ : ∃ kd, ks[k]? = some kd := ⟨_, List.getElem?_eq_getElem (by have := HKL.out; omega)⟩
        have HC := hide (newCols_get ns ks 0 k nm kd hnm1 hkd1)
        obtain ⟨bn, on, rfl, hbn, hcn⟩ := hn.elem (w' := wr) inferInstance (k := k) (by simp [strCells]; omega)
        have n1 := At.l1 (hcn k [.string nm] (by simp [strCells, hnm1]))
        obtain ⟨bk, ok, rfl, hbk, hck⟩ := hk.elem (w' := wr) inferInstance (k := k) (by have := HKL.out; simp [intCells]; omega)
        have n2 := At.l1 (hck k [.int .i64 kd] (by simp [intCells, hkd1]))
        simp only [Nat.mul_one] at n1 n2
        clear hcn hck hnm1 hkd1
        have hp' := hp
        obtain ⟨p0, p1, p2⟩ := At.z3 hp'.at0
        have f1 := hp'.free
        have l1 := hp.lt
        have HP := hide hp; clear hp hp'
        have HOWN := hide hown; clear hown
        have hgn := fn.below.size; have hgk := fk.below.size
        obtain ⟨o, ho⟩ : ∃ o : Obj, o = .cells #[.int .i64 ((k : Int) + 1), .string nm, .int .i64 kd] 90 := ⟨_, rfl⟩
        have HO : Hid (Own (wr.alloc o).drew (w.heap.size + 2) 90 3 (.slice A' k cap') (((newCols ns ks 0).take k).map Col.cells)) := (HOWN.out.alloc o).drew
        have HS : Hid (SlAt (wr.alloc o).drew (wr.alloc o).drew.heap.size 3 (some ⟨wr.heap.size, 0, none⟩) [[.int .i64 ((k : Int) + 1), .string nm, .int .i64 kd]]) := by
          rw [ho]; exact SlAt.one wr.drew 3 [.int .i64 ((k : Int) + 1), .string nm, .int .i64 kd] 90
        have HFt : Hid (Fit 3 [[.int .i64 ((k : Int) + 1), .string nm, .int .i64 kd]]) := cols_fit [⟨(k : Int) + 1, nm, kd⟩]
        have HPo : Hid (Blk (wr.alloc o).drew (w.heap.size + 1) 24 [.int .i64 0, .slice A' k cap', .int .i64 (ns.length + 1)]) := (HP.out.alloc o).drew
        have HLe : Hid (((((newCols ns ks 0).take k).map Col.cells).length + [[Value.int .i64 ((k : Int) + 1), .string nm, .int .i64 kd]].length) * 32 ≤ 140737488355328) := by
          show _ ≤ _; simp [HLN.out]; omega
        have HBs : Hid (w.heap.size + 2 ≤ (wr.alloc o).drew.heap.size) := by show _ ≤ _; simp; omega
        have HN : Hid ((((newCols ns ks 0).take k).map Col.cells).length + [[Value.int .i64 ((k : Int) + 1), .string nm, .int .i64 kd]].length = k + 1) := by show _ = _; simp [HLN.out]; omega
        subst ho
        have hwr : IntKind.i64.wrap ((k : Int) + 1) = (k : Int) + 1 := by rw [IntKind.wrap_i64]; omega
        go_wp2
        go_region_law (refine step_append_sl rfl (.tmp 25) (.tmp 37) 22 rfl eiCol (v := .slice A' k cap') ?hs1 HO.out (cols_fit _) (A := some ⟨wr.heap.size, 0, none⟩) (c := 1) (n := 1) ?hs2 rfl HS.out HFt.out HLe.out HBs.out (N := k + 1) HN.out ?_; (case hs1 => simp [Act.eval]); (case hs2 => simp [Act.eval]); intro A1 cap1 w1 hq1 hq2 hown1 hgr1 hbel1; have hp1 := HPo.out.grown hgr1 (HO.out.ne_ HPo.out (by decide)); obtain ⟨c0, c1, c2⟩ := At.z3 hp1.at0; have f1' := hp1.free 1; have H1 := hide hp1; have H2 := hide hgr1; have H3 := hide hown1; have H4 := hide hbel1; clear hp1 hgr1 hbel1 hown1)
        all_goals
          clear n1 n2 p0 p1 p2 f1 c0 c1 c2 f1' hwr
          go_wp2
          go_roundw
          case rel =>
            have hb1 : Below (w.heap.size + 2) wr w1 := (Below.drew ((Below.refl _ _).alloc hz _)).trans H4.out
            refine ⟨k + 1, A1, cap1, by omega, by go_num, by simpa using H1.out.set_ 1 (.slice A1 (k + 1) cap1), hq1, hq2, ?_, ?_, ⟨?_⟩, ?_⟩
            · rw [List.take_add_one, HC.out, List.map_append]
              have := H3.out.set_other H1.out (by decide) 1 (.slice A1 (k + 1) cap1)
              simpa [Col.cells] using this
            · exact (HR.out.below hb1 (by omega)).far (by simp) _
            · exact (HBW.out.trans (hb1.mono (by omega))).setCell (by simp) _
            · have := hb1.size
              simp [World.setCell]
              omega
          case measure => simp [intOf]; omega
      · obtain rfl : k = ns.length := by omega
        rw [List.take_of_length_le (by rw [HLN.out]; exact Nat.le_refl _)] at hown
        have hsin : SchIn wr ⟨0, newCols ns ks 0, ns.length + 1⟩ A' cap' := ⟨by simp only [HLN.out]; exact hc1, by simpa [maxLen] using hc2, by simp only [HLN.out]; omega, hown.sl (cols_fit _).len, fun c hc => hnm _ (newCols_mem ns ks 0 c hc)⟩
        have hc := rmay_any ⟨0, newCols ns ks 0, ns.length + 1⟩ A' cap' wr hsin
        unfold Sch.val at hc
        simp only [HLN.out] at hc
        have HM := hide hc
        obtain ⟨p0, p1, p2⟩ := At.z3 hp.at0
        have l1 := hp.lt
        have HP := hide hp; clear hp hc hsin
        have HOWN := hide hown; clear hown
        cases hmay : mayB ⟨0, newCols ns ks 0, ns.length + 1⟩ with
        | true =>
          have HMY := hide hmay; clear hmay
          go_wp2_with (refine HM.out.mono ?_; rintro e w4 ⟨rfl, hs4⟩; rw [HMY.out]; have hb4 := hs4.below; obtain ⟨q0, q1, q2⟩ := At.z3 (HP.out.below hb4 (by omega)).at0; obtain ⟨r0, r1, r2⟩ := At.z3 (HR.out.below hb4 (by omega)).at0; have g0 := (HR.out.below hb4 (by omega)).free; have s5 := hb4.size; have H4 := hide hb4; clear hb4)
          have hr4 := HR.out.below H4.out (by omega)
          obtain ⟨t0, t1, t2⟩ := At.z3 (store3 hr4 (.int .i64 0) (.slice A' ns.length cap') (.int .i64 (ns.length + 1)))
          refine bodyPost_ret (v := .tuple #[.agg #[.int .i64 0, .slice A' ns.length cap', .int .i64 (ns.length + 1)], .int .i64 0]) (by simp [results, Tryz.results73, go_sem, t0, t1, t2]) rfl ?_
          rw [rnewR, if_neg (by have := HL.out; omega), nextR, if_pos HMY.out]
          have := SchRes.store (w := w) (w0 := w) (w' := w4) (s := ⟨0, newCols ns ks 0, ns.length + 1⟩) (n := 0) (A := A') (cap := cap') (by simp only [HLN.out]; exact hc1) hc2
            (by simp only [HLN.out]; exact (HOWN.out.keep H4.out (Nat.le_refl _)).more (by omega)) (HBW.out.trans (H4.out.mono (by omega))) (by omega) hr4 (Nat.le_refl _)
          simpa only [Sch.val, HLN.out] using this
        | false =>
          have HMY := hide hmay; clear hmay
          go_wp2_with (refine HM.out.mono ?_; rintro e w4 ⟨rfl, hs4⟩; rw [HMY.out]; have hb4 := hs4.below; obtain ⟨q0, q1, q2⟩ := At.z3 (HP.out.below hb4 (by omega)).at0; obtain ⟨r0, r1, r2⟩ := At.z3 (HR.out.below hb4 (by omega)).at0; have g0 := (HR.out.below hb4 (by omega)).free; have s5 := hb4.size; have H4 := hide hb4; clear hb4)
          have hr4 := HR.out.below H4.out (by omega)
          obtain ⟨t0, t1, t2⟩ := At.z3 (store3 hr4 (.int .i64 0) (.slice none 0 0) (.int .i64 0))
          refine bodyPost_ret (v := .tuple #[.agg #[.int .i64 0, .slice none 0 0, .int .i64 0], .int .i64 1200]) (by simp [results, Tryz.results73, go_sem, t0, t1, t2]) rfl ?_
          rw [rnewR, if_neg (by have := HL.out; omega), nextR, if_neg (by rw [HMY.out]; simp)]
          exact SchRes.err (below3 (HBW.out.trans (H4.out.mono (by omega))) (Nat.le_refl _) _ _ _)
  · have hb : ((ns.length : Int) != (ks.length : Int)) = true := by simp; omega
    have HL := hide hl
    clear hl
    go_enter Tryz.func73, Tryz.ntmps73
    go_wp2
    refine bodyPost_ret (v := .tuple #[.agg #[.int .i64 0, .slice none 0 0, .int .i64 0], .int .i64 1200]) (by simp [results, Tryz.results73, go_sem]) rfl ?_
    rw [rnewR, if_pos HL.out]
    exact SchRes.err ((below_a1 w _))
end Go.Proofs.YtnphokhehacfnaaGreatDoor

namespace Go.Proofs.YtnphokhehacfnaaGreatDoor
open Go.RowKit

/-- A schema whose columns are few and have short names. -/
def Fine (s : Sch) : Prop := s.cols.length ≤ 12 ∧ ∀ c ∈ s.cols, c.name.size ≤ 16
/-- The call answers the schema and the error: read, and the columns' memory is the call's own. -/
def SR (w : World) (r : Sch × Int) (e : Ending) (w' : World) : Prop :=
  ∃ (A : Option Addr) (cap : Nat), e = .returned (.tuple #[.agg #[.int .i64 r.1.id, .slice A r.1.cols.length cap, .int .i64 r.1.next], .int .i64 r.2]) ∧ SchIn w' r.1 A cap ∧
    Own w' w.heap.size 90 3 (.slice A r.1.cols.length cap) (r.1.cols.map Col.cells) ∧ Step w w'
variable {w0 : World}
theorem pmay (s : Sch) (A : Option Addr) (cap : Nat) (w : World) (h : SchIn w0 s A cap) [Fut w0 w] :
    Calls Tryz.prog 54 #[s.val A cap] w fun e w' => e = .returned (.bool (mayB s)) ∧ Step w w' := h.fut.may.mono fun _ _ h => ⟨h.1, ⟨h.2⟩⟩
theorem pfind (s : Sch) (A : Option Addr) (cap : Nat) (nm : ByteArray) (w : World) (h : SchIn w0 s A cap) [Fut w0 w] :
    Calls Tryz.prog 125 #[s.val A cap, .string nm] w fun e w' => e = .returned (.int .i64 (idx (named nm) s.cols)) ∧ Step w w' := (h.fut.find nm).mono fun _ _ h => ⟨h.1, ⟨h.2⟩⟩
end Go.Proofs.YtnphokhehacfnaaGreatDoor

namespace Go.Proofs.YtnphokhehacfnaaGreatDoor
open Go.RowKit

/-- A predicate that is handed in. -/
structure PrIn (w : World) (ns : List Nod) (A : Option Addr) (cap : Nat) : Prop where
  hcap : ns.length ≤ cap
  hcapm : cap ≤ 9223372036854775807
  len : ns.length ≤ 1599289640400
  at_ : SlAt w w.heap.size 9 A (ns.map Nod.cells)
  strs : ∀ n ∈ ns, n.col.size ≤ 9223372036854775807 ∧ n.v.s.size ≤ 9223372036854775807
theorem PrIn.fut {w w' : World} {ns : List Nod} {A : Option Addr} {cap : Nat} (h : PrIn w ns A cap) [k : Fut w w'] : PrIn w' ns A cap := ⟨h.hcap, h.hcapm, h.len, h.at_.fut, h.strs⟩
/-- Node k, in whatever later world. -/
theorem PrIn.node {w w' : World} {ns : List Nod} {A : Option Addr} {cap : Nat} (h : PrIn w ns A cap) (hf : Fut w w') {k : Nat} (hk : k < ns.length) :
    ∃ b off, A = some ⟨b, off, none⟩ ∧ b < w.heap.size ∧ ∃ n, ns[k]? = some n ∧ At w' b (off + k * 9) n.cells := by
  obtain ⟨b, off, e, hb, hc⟩ := h.at_.elem hf (k := k) (by simpa using hk)
  exact ⟨b, off, e, hb, ns[k], List.getElem?_eq_getElem hk, hc k _ (by simp [hk])⟩

theorem ahead_any (k : Int) (m g : Nat) (w : World) (h : w.cell? ⟨g, 0, none⟩ = some (.int .i64 m)) (_hg : g < w.heap.size) :
    Calls Tryz.prog 180 #[.int .i64 k, .pointer (some ⟨g, 0, none⟩)] w fun e w' => e = .returned (.bool (ahead k m)) ∧ w = w' := by
  by_cases h0 : 0 ≤ k
  · by_cases h1 : k < (m : Int)
    · have HX : Hid (ahead k m = true) := by show _ = _; simp [ahead, h0, h1]
      go_enter Tryz.func180, Tryz.ntmps180
      go_wp2
      go_ret
      exact ⟨ret_bool HX.out.symm, rfl⟩
    · have HX : Hid (ahead k m = false) := by show _ = _; simp [ahead, h0, h1]
      have h2 : (m : Int) ≤ k := by omega
      clear h1
      go_enter Tryz.func180, Tryz.ntmps180
      go_wp2
      go_ret
      exact ⟨ret_bool (by rw [HX.out, decide_eq_false_iff_not]; omega), rfl⟩
  · have HX : Hid (ahead k m = false) := by show _ = _; simp [ahead, h0]
    have h2 : k < 0 := by omega
    clear h0
    go_enter Tryz.func180, Tryz.ntmps180
    go_wp2
    go_ret
    exact ⟨ret_bool HX.out.symm, rfl⟩

set_option maxHeartbeats 4000000 in
theorem pmayN_any {w0 : World} (b o : Nat) (n : Nod) (m : Nat) (w : World) (hn : At w0 b o n.cells) (hb : b < w0.heap.size) [hf : Fut w0 w] :
    Calls Tryz.prog 157 #[.pointer (some ⟨b, o, none⟩), .int .i64 m] w fun e w' => e = .returned (.bool (nodB n m)) ∧ Step w w' := by
  have hz := hf.below.size
  have hlt : b < w.heap.size := by omega
  have hn' := hn.below (fut w0 w) hb
  obtain ⟨n0, n1, n2, n3, n4, n5, n6, n7, n8⟩ := At.l9 hn'
  obtain ⟨R, hR⟩ : ∃ R, nodB n m = R := ⟨_, rfl⟩
  have HR := hide hR
  rw [hR]
  clear hR hn hn'
  have AH := hide (fun k => ahead_any k m w.heap.size (w.alloc (.cells #[.int .i64 m] 3)) (At.z1 (Blk.new w [.int .i64 m] _).at0) (by simp))
  by_cases k0 : n.kind = 0
  · rw [k0] at n0
    have HX := hide k0; clear k0
    go_enter Tryz.func157, Tryz.ntmps157
    go_wp2_with (first | (go_at_call 104; refine (vecKind_any _ _).mono ?_; rintro e w' ⟨rfl, rfl⟩; (try rw [K3.out])) | (go_at_call 180; refine (AH.out _).mono ?_; rintro e w' ⟨rfl, rfl⟩; (first | rw [K1.out] | rw [K2.out] | skip)))
    go_ret
    exact ⟨ret_bool (by rw [← HR.out]; simp [nodB, HX.out]), Step.of⟩
  have e0 : (n.kind == 0) = false := by simpa using k0
  by_cases k2 : n.kind = 2
  · rw [k2] at n0
    have HX := hide k2; clear k2 k0 e0
    go_enter Tryz.func157, Tryz.ntmps157
    go_wp2_with (first | (go_at_call 104; refine (vecKind_any _ _).mono ?_; rintro e w' ⟨rfl, rfl⟩; (try rw [K3.out])) | (go_at_call 180; refine (AH.out _).mono ?_; rintro e w' ⟨rfl, rfl⟩; (first | rw [K1.out] | rw [K2.out] | skip)))
    go_ret
    exact ⟨ret_bool (by rw [← HR.out]; simp [nodB, HX.out]), Step.of⟩
  have e2 : (n.kind == 2) = false := by simpa using k2
  by_cases k1 : n.kind = 1
  · rw [k1] at n0
    have HX : Hid (nodB n m = (decide (0 ≤ n.cmp) && decide (n.cmp ≤ 5) && kindB n.v.kind && (n.v.kind != 3 || decide (n.v.s.size ≤ 64)))) := by show _ = _; simp [nodB, k1]
    clear k0 k1 k2 e0 e2
    by_cases c1 : 0 ≤ n.cmp
    · by_cases c2 : n.cmp ≤ 5
      · cases c3 : kindB n.v.kind with
        | false =>
          have K3 := hide c3
          clear c3
          go_enter Tryz.func157, Tryz.ntmps157
          go_wp2_with (first | (go_at_call 104; refine (vecKind_any _ _).mono ?_; rintro e w' ⟨rfl, rfl⟩; (try rw [K3.out])) | (go_at_call 180; refine (AH.out _).mono ?_; rintro e w' ⟨rfl, rfl⟩; (first | rw [K1.out] | rw [K2.out] | skip)))
          go_ret
          exact ⟨ret_bool (by rw [← HR.out]; rw [HX.out, K3.out]; simp), Step.of⟩
        | true =>
          have K3 := hide c3
          clear c3
          by_cases c4 : n.v.kind = 3
          · have c4' : (n.v.kind != 3) = false := by simpa using c4
            have C4 := hide c4'
            clear c4
            by_cases c5 : n.v.s.size ≤ 64
            · have c5' : (n.v.s.size : Int) ≤ 64 := by omega
              have C5 := hide c5
              go_enter Tryz.func157, Tryz.ntmps157
              go_wp2_with (first | (go_at_call 104; refine (vecKind_any _ _).mono ?_; rintro e w' ⟨rfl, rfl⟩; (try rw [K3.out])) | (go_at_call 180; refine (AH.out _).mono ?_; rintro e w' ⟨rfl, rfl⟩; (first | rw [K1.out] | rw [K2.out] | skip)))
              go_ret
              exact ⟨ret_bool (by rw [← HR.out]; rw [HX.out, K3.out, C4.out]; simp [c1, c2, C5.out]), Step.of⟩
            · have c5' : (64 : Int) < (n.v.s.size : Int) := by omega
              have C5 : Hid (decide (n.v.s.size ≤ 64) = false) := by show _ = _; simp; omega
              clear c5
              go_enter Tryz.func157, Tryz.ntmps157
              go_wp2_with (first | (go_at_call 104; refine (vecKind_any _ _).mono ?_; rintro e w' ⟨rfl, rfl⟩; (try rw [K3.out])) | (go_at_call 180; refine (AH.out _).mono ?_; rintro e w' ⟨rfl, rfl⟩; (first | rw [K1.out] | rw [K2.out] | skip)))
              go_ret
              exact ⟨ret_bool (by rw [← HR.out]; rw [HX.out, K3.out, C4.out, C5.out]; first | (simp; done) | (simp; omega)), Step.of⟩
          · have c4' : (n.v.kind != 3) = true := by simpa using c4
            have C4 := hide c4'
            clear c4
            go_enter Tryz.func157, Tryz.ntmps157
            go_wp2_with (first | (go_at_call 104; refine (vecKind_any _ _).mono ?_; rintro e w' ⟨rfl, rfl⟩; (try rw [K3.out])) | (go_at_call 180; refine (AH.out _).mono ?_; rintro e w' ⟨rfl, rfl⟩; (first | rw [K1.out] | rw [K2.out] | skip)))
            go_ret
            exact ⟨ret_bool (by rw [← HR.out]; rw [HX.out, K3.out, C4.out]; simp [c1, c2]), Step.of⟩
      · have c2' : 5 < n.cmp := by omega
        clear c2
        go_enter Tryz.func157, Tryz.ntmps157
        go_wp2_with (first | (go_at_call 104; refine (vecKind_any _ _).mono ?_; rintro e w' ⟨rfl, rfl⟩; (try rw [K3.out])) | (go_at_call 180; refine (AH.out _).mono ?_; rintro e w' ⟨rfl, rfl⟩; (first | rw [K1.out] | rw [K2.out] | skip)))
        go_ret
        exact ⟨ret_bool (by rw [← HR.out]; rw [HX.out]; simp; omega), Step.of⟩
    · have c1' : n.cmp < 0 := by omega
      clear c1
      go_enter Tryz.func157, Tryz.ntmps157
      go_wp2_with (first | (go_at_call 104; refine (vecKind_any _ _).mono ?_; rintro e w' ⟨rfl, rfl⟩; (try rw [K3.out])) | (go_at_call 180; refine (AH.out _).mono ?_; rintro e w' ⟨rfl, rfl⟩; (first | rw [K1.out] | rw [K2.out] | skip)))
      go_ret
      exact ⟨ret_bool (by rw [← HR.out]; rw [HX.out]; simp; omega), Step.of⟩
  have e1 : (n.kind == 1) = false := by simpa using k1
  by_cases k3 : n.kind = 3
  · rw [k3] at n0
    have HX : Hid (nodB n m = ahead n.l m) := by show _ = _; simp [nodB, k3]
    clear k0 k1 k2 k3 e0 e1 e2
    go_enter Tryz.func157, Tryz.ntmps157
    go_wp2_with (first | (go_at_call 104; refine (vecKind_any _ _).mono ?_; rintro e w' ⟨rfl, rfl⟩; (try rw [K3.out])) | (go_at_call 180; refine (AH.out _).mono ?_; rintro e w' ⟨rfl, rfl⟩; (first | rw [K1.out] | rw [K2.out] | skip)))
    go_ret
    exact ⟨ret_bool (by rw [← HR.out]; exact HX.out.symm), Step.of⟩
  have e3 : (n.kind == 3) = false := by simpa using k3
  by_cases k4 : n.kind = 4
  · rw [k4] at n0
    have HX : Hid (nodB n m = (ahead n.l m && ahead n.r m)) := by show _ = _; simp [nodB, k4]
    clear k0 k1 k2 k3 e0 e1 e2 e3 k4
    cases c1 : ahead n.l m with
    | false =>
      have K1 := hide c1
      clear c1
      go_enter Tryz.func157, Tryz.ntmps157
      go_wp2_with (first | (go_at_call 104; refine (vecKind_any _ _).mono ?_; rintro e w' ⟨rfl, rfl⟩; (try rw [K3.out])) | (go_at_call 180; refine (AH.out _).mono ?_; rintro e w' ⟨rfl, rfl⟩; (first | rw [K1.out] | rw [K2.out] | skip)))
      go_ret
      exact ⟨ret_bool (by rw [← HR.out]; rw [HX.out, K1.out]; rfl), Step.of⟩
    | true =>
      have K1 := hide c1
      clear c1
      go_enter Tryz.func157, Tryz.ntmps157
      go_wp2_with (first | (go_at_call 104; refine (vecKind_any _ _).mono ?_; rintro e w' ⟨rfl, rfl⟩; (try rw [K3.out])) | (go_at_call 180; refine (AH.out _).mono ?_; rintro e w' ⟨rfl, rfl⟩; (first | rw [K1.out] | rw [K2.out] | skip)))
      go_ret
      exact ⟨ret_bool (by rw [← HR.out]; rw [HX.out, K1.out]; simp), Step.of⟩
  have e4 : (n.kind == 4) = false := by simpa using k4
  by_cases k5 : n.kind = 5
  · rw [k5] at n0
    have HX : Hid (nodB n m = (ahead n.l m && ahead n.r m)) := by show _ = _; simp [nodB, k5]
    clear k0 k1 k2 k3 e0 e1 e2 e3 k4 e4 k5
    cases c1 : ahead n.l m with
    | false =>
      have K1 := hide c1
      clear c1
      go_enter Tryz.func157, Tryz.ntmps157
      go_wp2_with (first | (go_at_call 104; refine (vecKind_any _ _).mono ?_; rintro e w' ⟨rfl, rfl⟩; (try rw [K3.out])) | (go_at_call 180; refine (AH.out _).mono ?_; rintro e w' ⟨rfl, rfl⟩; (first | rw [K1.out] | rw [K2.out] | skip)))
      go_ret
      exact ⟨ret_bool (by rw [← HR.out]; rw [HX.out, K1.out]; rfl), Step.of⟩
    | true =>
      have K1 := hide c1
      clear c1
      go_enter Tryz.func157, Tryz.ntmps157
      go_wp2_with (first | (go_at_call 104; refine (vecKind_any _ _).mono ?_; rintro e w' ⟨rfl, rfl⟩; (try rw [K3.out])) | (go_at_call 180; refine (AH.out _).mono ?_; rintro e w' ⟨rfl, rfl⟩; (first | rw [K1.out] | rw [K2.out] | skip)))
      go_ret
      exact ⟨ret_bool (by rw [← HR.out]; rw [HX.out, K1.out]; simp), Step.of⟩
  have e5 : (n.kind == 5) = false := by simpa using k5
  have HX : Hid (nodB n m = false) := by show _ = _; simp [nodB, k0, k1, k2, k3, k4, k5]
  clear k0 k1 k2 k3 k4 k5
  go_enter Tryz.func157, Tryz.ntmps157
  go_wp2_with (first | (go_at_call 104; refine (vecKind_any _ _).mono ?_; rintro e w' ⟨rfl, rfl⟩; (try rw [K3.out])) | (go_at_call 180; refine (AH.out _).mono ?_; rintro e w' ⟨rfl, rfl⟩; (first | rw [K1.out] | rw [K2.out] | skip)))
  go_ret
  exact ⟨ret_bool (by rw [← HR.out]; exact HX.out.symm), Step.of⟩

set_option maxHeartbeats 1000000 in
theorem ppred_any {w0 : World} (ns : List Nod) (A : Option Addr) (cap : Nat) (w : World) (h : PrIn w0 ns A cap) [hf : Fut w0 w] :
    Calls Tryz.prog 123 #[.agg #[.slice A ns.length cap]] w fun e w' => e = .returned (.bool (predB ns)) ∧ Step w w' := by
  have hl := h.len
  have hz := hf.below.size
  by_cases h24 : ns.length ≤ 24
  · have HP : Hid (predB ns = nodsUpto ns ns.length) := by show _ = _; simp [predB, h24]
    have HB := hide (Blk.new w [.slice A ns.length cap] 34)
    rw [HP.out]
    go_enter Tryz.func123, Tryz.ntmps123
    go_wp2
    go_loopw [3, 11] (fun _ i wr => ∃ k : Nat, k ≤ ns.length ∧ i = .int .i64 k ∧ nodsUpto ns k = true ∧ Step (w.alloc (.cells #[.slice A ns.length cap] 34)) wr) (fun _ i _ => ns.length - (intOf i).toNat)
    case atStart => exact ⟨0, Nat.zero_le _, rfl, rfl, Step.of⟩
    case round =>
      obtain ⟨k, hk, rfl, hok, hst⟩ := hrel
      have HO := hide hok; clear hok
      have hs1 := hst.size
      simp only [hsz] at hs1
      have hs2 : w.heap.size < wr.heap.size := by omega
      have r0 := At.z1 (HB.out.fut (w' := wr)).at0
      by_cases hlt : k < ns.length
      · obtain ⟨b, off, rfl, hb, n, hn, hat⟩ := h.node (w' := wr) inferInstance hlt
        have HN := hide hn; clear hn
        have hm := fun w' [Fut wr w'] => pmayN_any b (off + k * 9) n k w' hat (by omega)
        cases hnb : nodB n k with
        | true =>
          rw [hnb] at hm
          have HM := hide hm; have HNB := hide hnb
          clear hm hnb hat
          go_wp2_with fail
          refine (HM.out _).mono ?_
          rintro e w2 ⟨rfl, hs⟩
          go_wp2_with fail
          go_roundw
          case rel => exact ⟨k + 1, by omega, by go_num, by rw [nodsUpto, HO.out, HN.out]; simp [HNB.out], Step.of⟩
          case measure => simp [intOf]; omega
        | false =>
          rw [hnb] at hm
          have HM := hide hm; have HNB := hide hnb
          clear hm hnb hat
          go_wp2_with fail
          refine (HM.out _).mono ?_
          rintro e w2 ⟨rfl, hs⟩
          go_wp2_with fail
          go_ret
          exact ⟨ret_bool (nodsUpto_bad HN.out HNB.out).symm, Step.of⟩
      · obtain rfl : k = ns.length := by omega
        go_wp2_with fail
        go_ret
        exact ⟨ret_bool HO.out.symm, Step.of⟩
  · have h25 : (24 : Int) < (ns.length : Int) := by omega
    have HP : Hid (predB ns = false) := by show _ = _; simp [predB]; omega
    clear h24
    rw [HP.out]
    go_enter Tryz.func123, Tryz.ntmps123
    go_wp2
    go_ret
    exact ⟨rfl, Step.of⟩
end Go.Proofs.YtnphokhehacfnaaGreatDoor

