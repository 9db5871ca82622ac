/-
  The document's Stat: how many nulls, the least and the greatest value.
-/
import Derived.Test.YtafgfehjdbomfaaDoorTa
import Derived.Test.YtafgfehjdbomfaaDoorQa
import Derived.Test.YtafgfehjdbomfaaDoorVc
namespace Go.Proofs.YtafgfehjdbomfaaDoor
open Go.RowKit

def zeroV : Val := ⟨0, 0, false, ⟨#[]⟩⟩
/-- One value more. -/
def minS (mn c : Val) : Val := if (nullB mn || decide (cmpV c mn < 0)) then c else mn
def maxS (mx c : Val) : Val := if (nullB mx || decide (0 < cmpV c mx)) then c else mx
def stepSt (t : Sta) (v : Val) : Sta := if kindV v = 0 then ⟨t.col, t.nulls + 1, t.mn, t.mx⟩ else ⟨t.col, t.nulls, minS t.mn (clean v), maxS t.mx (clean v)⟩
def statR (col : Int) (vs : List Val) : Sta := vs.foldl stepSt ⟨col, 0, zeroV, zeroV⟩
theorem statR_take (col : Int) (vs : List Val) (k : Nat) (v : Val) (h : vs[k]? = some v) : statR col (vs.take (k + 1)) = stepSt (statR col (vs.take k)) v := by
  rw [List.take_add_one, h]
  simp [statR]
theorem clean_size {v : Val} (h : v.s.size ≤ 9223372036854775807) : (clean v).s.size ≤ 9223372036854775807 := by
  unfold clean
  repeat' split
  all_goals first | exact h | exact Nat.zero_le _

set_option maxRecDepth 100000 in
set_option maxHeartbeats 16000000 in
theorem rstat_any {w0 : World} (col : Int) (vs : List Val) (Av : Option Addr) (cv : Nat) (w : World) (hv : SlAt w0 w0.heap.size 4 Av (vs.map Val.cells)) [f0 : Fut w0 w] (hl : vs.length ≤ 4611686018427387904) (hvs : ∀ v ∈ vs, v.s.size ≤ 9223372036854775807) :
    Calls Tryd.prog 29 #[.int .i64 col, .slice Av vs.length cv] w fun e w' => e = .returned (.agg #[.int .i64 (statR col vs).col, .int .i64 (statR col vs).nulls, .int .i64 (statR col vs).mn.kind, .int .i64 (statR col vs).mn.i, .bool (statR col vs).mn.b, .string (statR col vs).mn.s, .int .i64 (statR col vs).mx.kind, .int .i64 (statR col vs).mx.i, .bool (statR col vs).mx.b, .string (statR col vs).mx.s]) ∧ Step w w' := by
  have z0 := f0.below.size
  have HVS := hide hvs
  clear hvs
  obtain ⟨R, hR⟩ : ∃ R, statR col vs = R := ⟨_, rfl⟩
  have HR := hide hR
  rw [hR]
  clear hR
  go_enter Tryd.func29, Tryd.ntmps29
  go_wp2_with fail
  obtain ⟨W, hW⟩ : ∃ W, W = (w.alloc (.cells #[.int .i64 0, .int .i64 0, .int .i64 0, .int .i64 0, .bool false, .string ⟨#[]⟩, .int .i64 0, .int .i64 0, .bool false, .string ⟨#[]⟩] 68)).alloc (.cells #[.int .i64 col, .int .i64 0, .int .i64 0, .int .i64 0, .bool false, .string ⟨#[]⟩, .int .i64 0, .int .i64 0, .bool false, .string ⟨#[]⟩] 68) := ⟨_, rfl⟩
  have SW : Step w W := by rw [hW]; exact Step.of
  have HRB : Hid (Blk W w.heap.size 68 [.int .i64 0, .int .i64 0, .int .i64 0, .int .i64 0, .bool false, .string ⟨#[]⟩, .int .i64 0, .int .i64 0, .bool false, .string ⟨#[]⟩]) := by rw [hW]; exact (Blk.new w [.int .i64 0, .int .i64 0, .int .i64 0, .int .i64 0, .bool false, .string ⟨#[]⟩, .int .i64 0, .int .i64 0, .bool false, .string ⟨#[]⟩] 68).alloc _
  have HG : Hid (Blk W (w.heap.size + 1) 68 [.int .i64 col, .int .i64 0, .int .i64 0, .int .i64 0, .bool false, .string ⟨#[]⟩, .int .i64 0, .int .i64 0, .bool false, .string ⟨#[]⟩]) := by rw [hW]; exact Blk.new_at (by simp) [.int .i64 col, .int .i64 0, .int .i64 0, .int .i64 0, .bool false, .string ⟨#[]⟩, .int .i64 0, .int .i64 0, .bool false, .string ⟨#[]⟩] 68
  rw [← hW]
  clear hW
  obtain ⟨g, hg⟩ : ∃ g, g = w.heap.size + 1 := ⟨_, rfl⟩
  rw [← hg] at HG
  rw [← hg]
  obtain ⟨r, hr⟩ : ∃ r, r = w.heap.size := ⟨_, rfl⟩
  rw [← hr] at HRB
  rw [← hr]
  have hgr : r < g := by omega
  have NG : Newer w g := ⟨by omega⟩
  have NR : Newer w r := ⟨by omega⟩
  clear hg hr
  go_loopw [6, 7] (fun i _ wr => ∃ (k : Nat) (nulls : Int) (mn mx : Val), k ≤ vs.length ∧ i = .int .i64 k ∧ Hid (statR col (vs.take k) = ⟨col, nulls, mn, mx⟩) ∧ 0 ≤ nulls ∧ nulls ≤ k ∧ mn.s.size ≤ 9223372036854775807 ∧ mx.s.size ≤ 9223372036854775807 ∧ Blk wr g 68 [.int .i64 col, .int .i64 nulls, .int .i64 mn.kind, .int .i64 mn.i, .bool mn.b, .string mn.s, .int .i64 mx.kind, .int .i64 mx.i, .bool mx.b, .string mx.s] ∧ Blk wr r 68 [.int .i64 0, .int .i64 0, .int .i64 0, .int .i64 0, .bool false, .string ⟨#[]⟩, .int .i64 0, .int .i64 0, .bool false, .string ⟨#[]⟩] ∧ Step w wr) (fun i _ _ => vs.length - (intOf i).toNat)
  case atStart => exact ⟨0, 0, zeroV, zeroV, Nat.zero_le _, rfl, rfl, Int.le_refl _, Int.le_refl _, by decide, by decide, HG.out, HRB.out, Step.of⟩
  case round =>
    obtain ⟨k, nulls, mn, mx, hk, rfl, HS, hn0, hnk, mnS, mxS, hbg, hbr, hst⟩ := hrel
    clear HG HRB
    have HG := hide hbg; have HRB := hide hbr
    clear hbg hbr
    obtain ⟨wr0, hw0⟩ : ∃ x : World, x = wr := ⟨_, rfl⟩
    rw [← hw0] at HG HRB hst
    rw [← hw0]
    clear hw0
    have z1 := hst.size
    obtain ⟨t0, t1, t2, t3, t4, t5, t6, t7, t8, t9⟩ := At.z10 (HG.out.fut (w' := wr0)).at0; have lt_ := (HG.out.fut (w' := wr0)).lt; have ft := (HG.out.fut (w' := wr0)).free
    by_cases hlt : k < vs.length
    · obtain ⟨b, off, rfl, hb, hc⟩ := hv.elem (w' := wr0) inferInstance (k := k) (by simpa using hlt)
      obtain ⟨v, hvv⟩ : ∃ v, vs[k]? = some v := ⟨_, List.getElem?_eq_getElem hlt⟩
      obtain ⟨v1, v2, v3, v4⟩ := At.l4 (hc k v.cells (by simp [hvv]))
      have HAT := hide (hc k v.cells (by simp [hvv]))
      have hlb : b < wr0.heap.size := by omega
      have HTX := hide (statR_take col vs k v hvv)
      have hvs' := HVS.out v (List.mem_of_getElem? hvv)
      have hkl : (k : Int) < (vs.length : Int) := by omega
      clear hc hvv
      have HNV := hide (vnull_any v)
      unfold Val.val at HNV
      by_cases h0 : kindV v = 0
      · have e0 : nullB v = true := by simp [nullB, h0]
        rw [e0] at HNV
        have HST : Hid (stepSt ⟨col, nulls, mn, mx⟩ v = ⟨col, nulls + 1, mn, mx⟩) := by show _ = _; rw [stepSt, if_pos h0]
        clear h0 e0
        go_wp2_with (go_at_call 48; with_reducible refine (HNV.out _).mono ?_; rintro e u1 ⟨rfl, hu1⟩; clear t0 t1 t2 t3 t4 t5 t6 t7 t8 t9 lt_ ft; (obtain ⟨t0, t1, t2, t3, t4, t5, t6, t7, t8, t9⟩ := At.z10 (HG.out.fut (w' := u1)).at0; have lt_ := (HG.out.fut (w' := u1)).lt; have ft := (HG.out.fut (w' := u1)).free))
        go_roundw
        case rel =>
          refine ⟨k + 1, nulls + 1, mn, mx, by omega, by go_num, by show _ = _; rw [HTX.out, HS.out, HST.out], by omega, by omega, mnS, mxS, ?_, ?_, Step.of⟩
          · have := (HG.out.fut (w' := u1)).set_ 1 (.int .i64 (nulls + 1))
            exact this
          · exact (HRB.out.fut (w' := u1)).far (p := ⟨g, 1, none⟩) (by simp; omega) _
        case measure => simp [intOf]; omega
      · have e0 : nullB v = false := by simp [nullB, h0]
        rw [e0] at HNV
        have HST : Hid (stepSt ⟨col, nulls, mn, mx⟩ v = ⟨col, nulls, minS mn (clean v), maxS mx (clean v)⟩) := by show _ = _; rw [stepSt, if_neg h0]
        have HCL := hide (vclean_any v)
        have hCs := clean_size hvs'
        unfold Val.val at HCL
        obtain ⟨C, hC⟩ : ∃ C, clean v = C := ⟨_, rfl⟩
        rw [hC] at HCL HST hCs
        clear hC h0 e0
        go_upto_region 8 with (first | (go_at_call 48; with_reducible refine (HNV.out _).mono ?_; rintro e u1 ⟨rfl, hu1⟩; clear t0 t1 t2 t3 t4 t5 t6 t7 t8 t9 lt_ ft; clear v1 v2 v3 v4 hlb; (obtain ⟨v1, v2, v3, v4⟩ := At.l4 (HAT.out.below (fut wr0 u1) (by omega))); have zu1 := hu1.size; have hlb : b < u1.heap.size := by omega) | (go_at_call 49; with_reducible refine (HCL.out _).mono ?_; rintro e u2 ⟨rfl, hu2⟩))
        clear v1 v2 v3 v4 hlb HNV HCL
        obtain ⟨X, hX⟩ : ∃ X, X = u2.alloc (.cells #[.int .i64 C.kind, .int .i64 C.i, .bool C.b, .string C.s] 57) := ⟨_, rfl⟩
        have HCB : Hid (Blk X u2.heap.size 57 [.int .i64 C.kind, .int .i64 C.i, .bool C.b, .string C.s]) := by rw [hX]; exact Blk.new u2 [.int .i64 C.kind, .int .i64 C.i, .bool C.b, .string C.s] 57
        have SX : Step u2 X := by rw [hX]; exact Step.of
        rw [← hX]
        clear hX
        obtain ⟨c, hc⟩ : ∃ c, c = u2.heap.size := ⟨_, rfl⟩
        rw [← hc] at HCB
        rw [← hc]
        have zu2 := hu2.size
        have hgc : g < c := by have := HG.out.lt; omega
        clear hc
        obtain ⟨t0, t1, t2, t3, t4, t5, t6, t7, t8, t9⟩ := At.z10 (HG.out.fut (w' := X)).at0; have lt_ := (HG.out.fut (w' := X)).lt; have ft := (HG.out.fut (w' := X)).free
        obtain ⟨c0, c1, c2, c3⟩ := At.z4 HCB.out.at0; have lc := HCB.out.lt
        go_upto_region 8 with (fail)
        go_cut [39] from 30 to 38 (fun x wx => x = .bool (nullB mn || decide (cmpV C mn < 0)) ∧ Step X wx)
        case first =>
          have HNL := hide (vnull_any mn)
          have HCP := hide (fun w' => rcmp_any C mn w' hCs mnS)
          unfold Val.val at HNL HCP
          obtain ⟨q, hq⟩ : ∃ q, nullB mn = q := ⟨_, rfl⟩
          rw [hq] at HNL
          have HQ := hide hq
          obtain ⟨d, hd⟩ : ∃ d, cmpV C mn = d := ⟨_, rfl⟩
          rw [hd] at HCP
          have HD := hide hd
          clear hq hd
          cases q
          · go_wp2_with (first | (go_at_call 48; with_reducible refine (HNL.out _).mono ?_; rintro e u1 ⟨rfl, hu1⟩; clear t0 t1 t2 t3 t4 t5 t6 t7 t8 t9 lt_ ft; (obtain ⟨t0, t1, t2, t3, t4, t5, t6, t7, t8, t9⟩ := At.z10 (HG.out.fut (w' := u1)).at0; have lt_ := (HG.out.fut (w' := u1)).lt; have ft := (HG.out.fut (w' := u1)).free); clear c0 c1 c2 c3 lc; (obtain ⟨c0, c1, c2, c3⟩ := At.z4 (HCB.out.fut (w' := u1)).at0); have lc := (HCB.out.fut (w' := u1)).lt) | (go_at_call 47; with_reducible refine (HCP.out _).mono ?_; rintro e u2 ⟨rfl, hu2⟩))
            go_meet
            case rel => exact ⟨by rw [HQ.out, HD.out]; simp, Step.of⟩
          · go_wp2_with (go_at_call 48; with_reducible refine (HNL.out _).mono ?_; rintro e u1 ⟨rfl, hu1⟩)
            go_meet
            case rel => exact ⟨by rw [HQ.out, HD.out]; simp, Step.of⟩
        case rest =>
          obtain ⟨rfl, hsY⟩ := hcut
          obtain ⟨Y, rfl⟩ : ∃ x : World, x = wc := ⟨_, rfl⟩
          clear t0 t1 t2 t3 t4 t5 t6 t7 t8 t9 lt_ ft
          clear c0 c1 c2 c3 lc
          obtain ⟨b_, hb_⟩ : ∃ b, (nullB mn || decide (cmpV C mn < 0)) = b := ⟨_, rfl⟩
          rw [hb_]
          have HB_mn := hide hb_
          clear hb_
          obtain ⟨t0, t1, t2, t3, t4, t5, t6, t7, t8, t9⟩ := At.z10 (HG.out.fut (w' := Y)).at0; have lt_ := (HG.out.fut (w' := Y)).lt; have ft := (HG.out.fut (w' := Y)).free
          obtain ⟨c0, c1, c2, c3⟩ := At.z4 (HCB.out.fut (w' := Y)).at0; have lc := (HCB.out.fut (w' := Y)).lt
          go_upto_if 39 with (fail)
          go_cut [] from 40 to 41 (fun wx => ∃ m : Val, Hid ((if (nullB mn || decide (cmpV C mn < 0)) then C else mn) = m) ∧ m.s.size ≤ 9223372036854775807 ∧ Blk wx g 68 [.int .i64 col, .int .i64 nulls, .int .i64 m.kind, .int .i64 m.i, .bool m.b, .string m.s, .int .i64 mx.kind, .int .i64 mx.i, .bool mx.b, .string mx.s] ∧ Blk wx r 68 [.int .i64 0, .int .i64 0, .int .i64 0, .int .i64 0, .bool false, .string ⟨#[]⟩, .int .i64 0, .int .i64 0, .bool false, .string ⟨#[]⟩] ∧ Blk wx c 57 [.int .i64 C.kind, .int .i64 C.i, .bool C.b, .string C.s] ∧ Step w wx)
          case first =>
            cases b_
            · go_wp2_with fail
              go_meet
              case rel => exact ⟨mn, by show _ = _; rw [HB_mn.out]; rfl, mnS, HG.out.fut, HRB.out.fut, HCB.out.fut, Step.of⟩
            · go_wp2_with fail
              go_meet
              case rel =>
                refine ⟨C, by show _ = _; rw [HB_mn.out]; rfl, hCs, ?_, ?_, ?_, ?_⟩
                · exact ((((HG.out.fut (w' := Y)).set_ 2 (.int .i64 C.kind)).set_ 3 (.int .i64 C.i)).set_ 4 (.bool C.b)).set_ 5 (.string C.s)
                · exact ((((HRB.out.fut (w' := Y)).far (p := ⟨g, 2, none⟩) (by simp; omega) _).far (p := ⟨g, 3, none⟩) (by simp; omega) _).far (p := ⟨g, 4, none⟩) (by simp; omega) _).far (p := ⟨g, 5, none⟩) (by simp; omega) _
                · exact ((((HCB.out.fut (w' := Y)).far (p := ⟨g, 2, none⟩) (by simp; omega) _).far (p := ⟨g, 3, none⟩) (by simp; omega) _).far (p := ⟨g, 4, none⟩) (by simp; omega) _).far (p := ⟨g, 5, none⟩) (by simp; omega) _
                · exact Step.of
          case rest =>
            obtain ⟨m1, HM1, m1S, hbg, hbr, hbc, hsZ⟩ := hcut
            obtain ⟨Z, rfl⟩ : ∃ x : World, x = wc := ⟨_, rfl⟩
            clear t0 t1 t2 t3 t4 t5 t6 t7 t8 t9 lt_ ft
            clear c0 c1 c2 c3 lc HG HRB HCB HB_mn
            have HG := hide hbg; have HRB := hide hbr; have HCB := hide hbc
            clear hbg hbr hbc
            obtain ⟨t0, t1, t2, t3, t4, t5, t6, t7, t8, t9⟩ := At.z10 (HG.out.fut (w' := Z)).at0; have lt_ := (HG.out.fut (w' := Z)).lt; have ft := (HG.out.fut (w' := Z)).free
            obtain ⟨c0, c1, c2, c3⟩ := At.z4 HCB.out.at0; have lc := HCB.out.lt
            go_upto_region 10 with (fail)
            go_cut [51] from 42 to 50 (fun x wx => x = .bool (nullB mx || decide (0 < cmpV C mx)) ∧ Step Z wx)
            case first =>
              have HNL := hide (vnull_any mx)
              have HCP := hide (fun w' => rcmp_any C mx w' hCs mxS)
              unfold Val.val at HNL HCP
              obtain ⟨q, hq⟩ : ∃ q, nullB mx = q := ⟨_, rfl⟩
              rw [hq] at HNL
              have HQ := hide hq
              obtain ⟨d, hd⟩ : ∃ d, cmpV C mx = d := ⟨_, rfl⟩
              rw [hd] at HCP
              have HD := hide hd
              clear hq hd
              cases q
              · go_wp2_with (first | (go_at_call 48; with_reducible refine (HNL.out _).mono ?_; rintro e u1 ⟨rfl, hu1⟩; clear t0 t1 t2 t3 t4 t5 t6 t7 t8 t9 lt_ ft; (obtain ⟨t0, t1, t2, t3, t4, t5, t6, t7, t8, t9⟩ := At.z10 (HG.out.fut (w' := u1)).at0; have lt_ := (HG.out.fut (w' := u1)).lt; have ft := (HG.out.fut (w' := u1)).free); clear c0 c1 c2 c3 lc; (obtain ⟨c0, c1, c2, c3⟩ := At.z4 (HCB.out.fut (w' := u1)).at0); have lc := (HCB.out.fut (w' := u1)).lt) | (go_at_call 47; with_reducible refine (HCP.out _).mono ?_; rintro e u2 ⟨rfl, hu2⟩))
                go_meet
                case rel => exact ⟨by rw [HQ.out, HD.out]; simp, Step.of⟩
              · go_wp2_with (go_at_call 48; with_reducible refine (HNL.out _).mono ?_; rintro e u1 ⟨rfl, hu1⟩)
                go_meet
                case rel => exact ⟨by rw [HQ.out, HD.out]; simp, Step.of⟩
            case rest =>
              obtain ⟨rfl, hsY⟩ := hcut
              obtain ⟨Y, rfl⟩ : ∃ x : World, x = wc := ⟨_, rfl⟩
              clear t0 t1 t2 t3 t4 t5 t6 t7 t8 t9 lt_ ft
              clear c0 c1 c2 c3 lc
              obtain ⟨b_, hb_⟩ : ∃ b, (nullB mx || decide (0 < cmpV C mx)) = b := ⟨_, rfl⟩
              rw [hb_]
              have HB_mx := hide hb_
              clear hb_
              obtain ⟨t0, t1, t2, t3, t4, t5, t6, t7, t8, t9⟩ := At.z10 (HG.out.fut (w' := Y)).at0; have lt_ := (HG.out.fut (w' := Y)).lt; have ft := (HG.out.fut (w' := Y)).free
              obtain ⟨c0, c1, c2, c3⟩ := At.z4 (HCB.out.fut (w' := Y)).at0; have lc := (HCB.out.fut (w' := Y)).lt
              go_upto_if 51 with (fail)
              cases b_
              · go_wp2_with fail
                go_roundw
                case rel =>
                  refine ⟨k + 1, nulls, m1, mx, by omega, by go_num, ?_, hn0, by omega, m1S, mxS, ?_, ?_, Step.of⟩
                  · show _ = _
                    rw [HTX.out, HS.out, HST.out]
                    unfold minS maxS
                    rw [HM1.out, HB_mx.out]
                    rfl
                  · exact HG.out.fut
                  · exact HRB.out.fut
                case measure => simp [intOf]; omega
              · go_wp2_with fail
                go_roundw
                case rel =>
                  refine ⟨k + 1, nulls, m1, C, by omega, by go_num, ?_, hn0, by omega, m1S, hCs, ?_, ?_, Step.of⟩
                  · show _ = _
                    rw [HTX.out, HS.out, HST.out]
                    unfold minS maxS
                    rw [HM1.out, HB_mx.out]
                    rfl
                  · exact ((((HG.out.fut (w' := Y)).set_ 6 (.int .i64 C.kind)).set_ 7 (.int .i64 C.i)).set_ 8 (.bool C.b)).set_ 9 (.string C.s)
                  · exact (((((HRB.out.fut (w' := Y)).far (p := ⟨g, 6, none⟩) (by simp; omega) _).far (p := ⟨g, 7, none⟩) (by simp; omega) _).far (p := ⟨g, 8, none⟩) (by simp; omega) _).far (p := ⟨g, 9, none⟩) (by simp; omega) _)
                case measure => simp [intOf]; omega

    · obtain rfl : k = vs.length := by omega
      rw [List.take_length] at HS
      obtain ⟨r0, r1, r2, r3, r4, r5, r6, r7, r8, r9⟩ := At.z10 HRB.out.at0; have lr := HRB.out.lt; have fr := HRB.out.free
      have HRE : Hid (R = ⟨col, nulls, mn, mx⟩) := by show _ = _; rw [← HR.out, HS.out]
      obtain rfl := HRE.out
      clear HRE
      go_wp2_with fail
      obtain ⟨V, hV⟩ : ∃ V, V = ((((((((((wr0.setCell ⟨r, 0, none⟩ (.int .i64 col)).setCell ⟨r, 1, none⟩ (.int .i64 nulls)).setCell ⟨r, 2, none⟩ (.int .i64 mn.kind)).setCell ⟨r, 3, none⟩ (.int .i64 mn.i)).setCell ⟨r, 4, none⟩ (.bool mn.b)).setCell ⟨r, 5, none⟩ (.string mn.s)).setCell ⟨r, 6, none⟩ (.int .i64 mx.kind)).setCell ⟨r, 7, none⟩ (.int .i64 mx.i)).setCell ⟨r, 8, none⟩ (.bool mx.b)).setCell ⟨r, 9, none⟩ (.string mx.s)) := ⟨_, rfl⟩
      have SV : Step w V := by rw [hV]; exact Step.of
      have HV : Blk V r 68 [.int .i64 col, .int .i64 nulls, .int .i64 mn.kind, .int .i64 mn.i, .bool mn.b, .string mn.s, .int .i64 mx.kind, .int .i64 mx.i, .bool mx.b, .string mx.s] := by rw [hV]; exact ((((((((((HRB.out.set_ 0 (.int .i64 col)).set_ 1 (.int .i64 nulls)).set_ 2 (.int .i64 mn.kind)).set_ 3 (.int .i64 mn.i)).set_ 4 (.bool mn.b)).set_ 5 (.string mn.s)).set_ 6 (.int .i64 mx.kind)).set_ 7 (.int .i64 mx.i)).set_ 8 (.bool mx.b)).set_ 9 (.string mx.s))
      rw [← hV]
      clear hV t0 t1 t2 t3 t4 t5 t6 t7 t8 t9 lt_ ft r0 r1 r2 r3 r4 r5 r6 r7 r8 r9 lr fr
      obtain ⟨k0, k1, k2, k3, k4, k5, k6, k7, k8, k9⟩ := At.z10 HV.at0
      refine bodyPost_ret (v := .agg #[.int .i64 col, .int .i64 nulls, .int .i64 mn.kind, .int .i64 mn.i, .bool mn.b, .string mn.s, .int .i64 mx.kind, .int .i64 mx.i, .bool mx.b, .string mx.s]) (by simp [results, Tryd.results29, go_sem, k0, k1, k2, k3, k4, k5, k6, k7, k8, k9]) rfl ⟨rfl, Step.of⟩
end Go.Proofs.YtafgfehjdbomfaaDoor
