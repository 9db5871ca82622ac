/-
  vec.Fits; colfile.May: may a file be?
-/
import Derived.Test.YtinpnginjpfbpaaDoorYa
import Derived.Test.YtinpnginjpfbpaaDoorYr
import Derived.Test.YtinpnginjpfbpaaDoorRo
import Derived.Test.YtinpnginjpfbpaaDoorA
namespace Go.Proofs.YtinpnginjpfbpaaDoor
open Go.RowKit

set_option maxRecDepth 10000 in
set_option maxHeartbeats 2000000 in
theorem fits_any (kd : Int) (v : Val) (w : World) (hs : v.s.size ≤ 9223372036854775807) :
    Calls Tryd.prog 37 #[.int .i64 kd, .agg #[.int .i64 v.kind, .int .i64 v.i, .bool v.b, .string v.s]] w fun e w' => e = .returned (.bool (fitsB kd v)) ∧ Step w w' := by
  have PV := hide (plain_ag v)
  have HVB := hide (Blk.new w [.int .i64 v.kind, .int .i64 v.i, .bool v.b, .string v.s] 57)
  have hcs : (clean v).s.size ≤ 9223372036854775807 := by
    unfold clean
    split
    · exact Nat.zero_le _
    split
    · exact Nat.zero_le _
    split
    · exact hs
    · exact Nat.zero_le _
  have UV := hide (fun w' => uvalid_any (clean v).s w' hcs)
  obtain ⟨R, hR⟩ : ∃ R, fitsB kd v = R := ⟨_, rfl⟩
  have HF : Hid ((kindV v == 0 || (kindV v == kd && decide ((clean v).s.size ≤ 64) && validB (clean v).s)) = R) := hide hR
  rw [hR]
  clear hR
  generalize kindV v = a at PV HF
  generalize (clean v).i = b at PV
  generalize (clean v).b = c at PV
  generalize (clean v).s = d at PV UV HF hcs
  by_cases h0 : a = 0
  · obtain rfl : R = true := by rw [← HF.out, h0]; simp
    subst h0
    clear HF
    go_enter Tryd.func37, Tryd.ntmps37
    go_wp2_with (go_at_call 22; (with_reducible refine (PV.out _).mono ?_); rintro e w2 ⟨rfl, hs2⟩; have bx := (HVB.out.fut (w' := w2)); obtain ⟨x0, x1, x2, x3⟩ := At.z4 bx.at0; have fx := bx.free; have lx := bx.lt; clear bx)
    go_ret
    exact ⟨rfl, Step.of⟩
  · have h0b : (a == 0) = false := by simpa using h0
    rw [h0b, Bool.false_or] at HF
    by_cases h1 : a = kd
    · subst h1
      rw [beq_self_eq_true, Bool.true_and] at HF
      clear h0
      by_cases h2 : d.size ≤ 64
      · have h2i : decide ((d.size : Int) ≤ 64) = true := by simp; omega
        rw [decide_eq_true h2, Bool.true_and] at HF
        rw [HF.out] at UV
        clear h2 HF
        go_enter Tryd.func37, Tryd.ntmps37
        go_wp2_with (first | (go_at_call 22; (with_reducible refine (PV.out _).mono ?_); rintro e w2 ⟨rfl, hs2⟩; have bx := (HVB.out.fut (w' := w2)); obtain ⟨x0, x1, x2, x3⟩ := At.z4 bx.at0; have fx := bx.free; have lx := bx.lt; clear bx) | (go_at_call 45; (with_reducible refine (UV.out _).mono ?_); rintro e w3 ⟨rfl, hs3⟩))
        go_ret
        exact ⟨rfl, Step.of⟩
      · have h2i : decide ((d.size : Int) ≤ 64) = false := by simp; omega
        rw [decide_eq_false h2, Bool.false_and] at HF
        obtain rfl : R = false := HF.out.symm
        clear h2
        go_enter Tryd.func37, Tryd.ntmps37
        go_wp2_with (go_at_call 22; (with_reducible refine (PV.out _).mono ?_); rintro e w2 ⟨rfl, hs2⟩; have bx := (HVB.out.fut (w' := w2)); obtain ⟨x0, x1, x2, x3⟩ := At.z4 bx.at0; have fx := bx.free; have lx := bx.lt; clear bx)
        go_ret
        exact ⟨rfl, Step.of⟩
    · have h1b : (a == kd) = false := by simpa using h1
      rw [h1b, Bool.false_and, Bool.false_and] at HF
      obtain rfl : R = false := HF.out.symm
      clear h1 h0
      go_enter Tryd.func37, Tryd.ntmps37
      go_wp2_with (go_at_call 22; (with_reducible refine (PV.out _).mono ?_); rintro e w2 ⟨rfl, hs2⟩; have bx := (HVB.out.fut (w' := w2)); obtain ⟨x0, x1, x2, x3⟩ := At.z4 bx.at0; have fx := bx.free; have lx := bx.lt; clear bx)
      go_ret
      exact ⟨rfl, Step.of⟩

/-- A file's data, with where it lies. -/
structure DatA where
  rows : Int
  cols : List Col
  A : Option Addr
  cap : Nat
  vals : List RowA
  Av : Option Addr
  cv : Nat
def DatA.val (d : DatA) : Value := .agg #[.int .i64 d.rows, .slice d.A d.cols.length d.cap, .slice d.Av d.vals.length d.cv]
def DatA.vss (d : DatA) : List (List Val) := d.vals.map RowA.vs
structure DatIn (w : World) (d : DatA) : Prop where
  cat : SlAt w w.heap.size 3 d.A (d.cols.map Col.cells)
  ccap : d.cols.length ≤ d.cap
  ccapm : d.cap ≤ 9223372036854775807
  clen : d.cols.length ≤ 4398046511102
  names : ∀ c ∈ d.cols, c.name.size ≤ 9223372036854775807
  vals : RowsIn w d.vals d.Av d.cv
theorem DatIn.fut {w w' : World} {d : DatA} (h : DatIn w d) [k : Fut w w'] : DatIn w' d := ⟨h.cat.fut, h.ccap, h.ccapm, h.clen, h.names, h.vals.fut⟩

theorem empty_yes {s : ByteArray} (h : s.size = 0) : s.toList.isEmpty = true := by
  rw [ByteArray.toList_eq, List.isEmpty_iff_length_eq_zero, Array.length_toList]
  exact h
theorem empty_no {s : ByteArray} (h : s.size ≠ 0) : s.toList.isEmpty = false := by
  rw [ByteArray.toList_eq]
  cases e : s.data.toList.isEmpty with
  | false => rfl
  | true =>
    rw [List.isEmpty_iff_length_eq_zero, Array.length_toList] at e
    exact absurd e h
theorem all_dropV {α : Type} {p : α → Bool} {l : List α} {j : Nat} {x : α} (h : l[j]? = some x) : (l.drop j).all p = (p x && (l.drop (j + 1)).all p) := by
  obtain ⟨hj, rfl⟩ := List.getElem?_eq_some_iff.1 h
  rw [List.drop_eq_getElem_cons hj, List.all_cons]
theorem colsB_cons {rows last : Int} {c : Col} {cs : List Col} {v : List Val} {vs : List (List Val)} : colsB rows last (c :: cs) (v :: vs) = (colB rows last c v && colsB rows c.id cs vs) := rfl
set_option maxRecDepth 100000 in
set_option maxHeartbeats 8000000 in
theorem cmay_any {w0 : World} (d : DatA) (w : World) (h : DatIn w0 d) [f0 : Fut w0 w] :
    Calls Tryd.prog 19 #[.agg #[.int .i64 d.rows, .slice d.A d.cols.length d.cap, .slice d.Av d.vals.length d.cv]] w fun e w' => e = .returned (.bool (fileB d.rows d.cols d.vss)) ∧ Step w w' := by
  have z0 := f0.below.size
  obtain ⟨T, hT⟩ : ∃ T, fileB d.rows d.cols d.vss = T := ⟨_, rfl⟩
  have HT := hide hT
  rw [hT]
  clear hT
  have hlen : d.vss.length = d.vals.length := by simp [DatA.vss]
  have HLN := hide hlen
  have hvl := h.vals.hcap; have hvm := h.vals.hcapm
  have hcl := h.clen
  obtain ⟨W, hW⟩ : ∃ W, W = w.alloc (.cells #[.int .i64 d.rows, .slice d.A d.cols.length d.cap, .slice d.Av d.vals.length d.cv] 27) := ⟨_, rfl⟩
  have SW : Step w W := by rw [hW]; exact Step.of
  have HDB : Hid (Blk W w.heap.size 27 [.int .i64 d.rows, .slice d.A d.cols.length d.cap, .slice d.Av d.vals.length d.cv]) := by rw [hW]; exact Blk.new w [.int .i64 d.rows, .slice d.A d.cols.length d.cap, .slice d.Av d.vals.length d.cv] 27
  have HW := hide hW
  have hzW := SW.size
  clear hW hlen
  by_cases hd : 0 ≤ d.rows ∧ d.rows ≤ 4096 ∧ 1 ≤ d.cols.length ∧ d.cols.length ≤ 12 ∧ d.vss.length = d.cols.length
  · obtain ⟨r0, r1, c0, c1, hvc⟩ := hd
    have HR : Hid (colsB d.rows 0 d.cols d.vss = T) := by
      show _ = _
      rw [← HT.out]
      cases e : colsB d.rows 0 d.cols d.vss with
      | true => exact (fileB_iff.2 ⟨⟨r0, r1, c0, c1, hvc⟩, e⟩).symm
      | false =>
        cases e2 : fileB d.rows d.cols d.vss with
        | false => rfl
        | true => rw [(fileB_iff.1 e2).2] at e; cases e
    rw [HLN.out] at hvc
    have HVC := hide hvc
    rw [hvc] at HDB HW hvl
    rw [hvc]
    clear hvc
    go_enter Tryd.func19, Tryd.ntmps19
    go_wp2_with fail
    have SWo := SW
    rw [← HW.out]
    go_loopw [3, 4, 5, 7, 40] (fun lst _ _ _ k wr => ∃ (n : Nat) (last : Int), n ≤ d.cols.length ∧ k = .int .i64 n ∧ lst = .int .i64 last ∧ Hid (colsB d.rows last (d.cols.drop n) (d.vss.drop n) = T) ∧ Step W wr) (fun _ _ _ _ k _ => d.cols.length - (intOf k).toNat)
    case atStart => exact ⟨0, 0, Nat.zero_le _, rfl, rfl, HR.out, Step.of⟩
    case round =>
      clear HR
      obtain ⟨n, last, hn, rfl, rfl, HR, hst⟩ := hrel
      obtain ⟨wo, rfl⟩ : ∃ x : World, x = wr := ⟨_, rfl⟩
      have hzo := hst.size
      by_cases hlt : n < d.cols.length
      · obtain ⟨b, off, hA, hb, hc⟩ := h.cat.elem (w' := wo) inferInstance (k := n) (by simpa using hlt)
        obtain ⟨c, hck⟩ : ∃ c, d.cols[n]? = some c := ⟨_, List.getElem?_eq_getElem hlt⟩
        obtain ⟨p0, p1, p2⟩ := At.l3 (hc n c.cells (by simp [hck]))
        obtain ⟨b2, off2, hA2, hb2, r, hrk, hri, q0⟩ := h.vals.row (w' := wo) inferInstance (k := n) (by rw [HVC.out]; exact hlt)
        have hvk : d.vss[n]? = some r.vs := by simp [DatA.vss, hrk]
        have hcapr := hri.hcap; have hcapmr := hri.hcapm
        have HR : Hid ((colB d.rows last c r.vs && colsB d.rows c.id (d.cols.drop (n + 1)) (d.vss.drop (n + 1))) = T) := by
          show _ = _
          rw [← HR.out, List.drop_eq_getElem_cons hlt, List.drop_eq_getElem_cons (List.getElem?_eq_some_iff.1 hvk).1, (List.getElem?_eq_some_iff.1 hck).2, (List.getElem?_eq_some_iff.1 hvk).2, colsB_cons]
        have HSTR := hide hri.strs
        have hnl : (n : Int) < (d.cols.length : Int) := by omega
        have hn0 : (0 : Int) ≤ (n : Int) := by omega
        have hlb : b < wo.heap.size := by omega
        have hlb2 : b2 < wo.heap.size := by omega
        have hd_ := HDB.out.fut (w' := wo)
        obtain ⟨y0, y1, y2⟩ := At.z3 hd_.at0
        have ly := hd_.lt
        rw [hA] at y1
        rw [hA2] at y2
        have HAA := hide hA; have HAA2 := hide hA2
        rw [hA, hA2]
        clear hc hck hvk hrk hd_ hA hA2
        have HCB : Hid (colB d.rows last c r.vs = (decide (last < c.id) && c.name.size == 0 && kindB c.kind && decide ((r.vs.length : Int) = d.rows) && r.vs.all (fitsB c.kind))) := hide rfl
        have VK := hide (fun w' => vecKind_any c.kind w')
        by_cases h1 : c.id ≤ last
        · obtain rfl : T = false := by rw [← HR.out, HCB.out, decide_eq_false (by omega)]; rfl
          go_wp2_with fail
          go_quiet (fail)
          go_wp2_with fail
          go_ret
          exact ⟨rfl, Step.of⟩
        have h1b : decide (c.id ≤ last) = false := by simp; omega
        by_cases h2 : c.name.size = 0
        · have h2b : c.name.toList.isEmpty = true := empty_yes h2
          have h2c : (!c.name.toList.isEmpty) = false := by rw [h2b]; rfl
          cases hkb : kindB c.kind with
          | false =>
            obtain rfl : T = false := by rw [← HR.out, HCB.out, hkb]; simp
            rw [hkb] at VK
            clear hkb
            go_wp2_with fail
            go_quiet ((go_at_call 36; exact Calls.quiet_of_same ((VK.out _).mono fun _ _ h => ⟨h.1, h.2.symm⟩)))
            go_wp2_with fail
            go_ret
            exact ⟨rfl, Step.of⟩
          | true =>
            have HKB := hide hkb
            rw [hkb] at VK
            clear hkb
            by_cases h3 : (r.vs.length : Int) = d.rows
            · have h3b : ((r.vs.length : Int) != d.rows) = false := by simpa using h3
              have HR : Hid ((r.vs.all (fitsB c.kind) && colsB d.rows c.id (d.cols.drop (n + 1)) (d.vss.drop (n + 1))) = T) := by
                show _ = _
                rw [← HR.out, HCB.out, HKB.out, decide_eq_true (by omega), decide_eq_true h3, h2]
                simp
              have H3 := hide h3
              clear h3 h1 h2 HCB
              go_wp2_with fail
              go_quiet ((go_at_call 36; exact Calls.quiet_of_same ((VK.out _).mono fun _ _ h => ⟨h.1, h.2.symm⟩)))
              go_wp2_with fail
              clear h1b h2b h2c h3b VK p0 p1 p2 q0 y0 y1 y2 ly hlb hlb2
              obtain ⟨RR, hRR⟩ : ∃ RR, colsB d.rows c.id (d.cols.drop (n + 1)) (d.vss.drop (n + 1)) = RR := ⟨_, rfl⟩
              rw [hRR] at HR
              have HRR := hide hRR
              clear hRR
              have HCW := hide (Blk.new wo [.int .i64 c.id, .string c.name, .int .i64 c.kind] 53)
              go_loopw [7, 81] (fun _ k wr => ∃ j : Nat, j ≤ r.vs.length ∧ k = .int .i64 j ∧ Hid (((r.vs.drop j).all (fitsB c.kind) && RR) = T) ∧ Step (wo.alloc (.cells #[.int .i64 c.id, .string c.name, .int .i64 c.kind] 53)) wr) (fun _ k _ => r.vs.length - (intOf k).toNat)
              case atStart => exact ⟨0, Nat.zero_le _, rfl, HR.out, Step.of⟩
              case round =>
                clear HR
                obtain ⟨j, hj, rfl, HR, hst2⟩ := hrel
                obtain ⟨wi, rfl⟩ : ∃ x : World, x = wr := ⟨_, rfl⟩
                have hzi := hst2.size
                simp only [hsz] at hzi
                by_cases hlj : j < r.vs.length
                · obtain ⟨b3, off3, hA3, hb3, hc3⟩ := hri.at_.elem (w' := wi) inferInstance (k := j) (by simpa using hlj)
                  obtain ⟨v, hv⟩ : ∃ v, r.vs[j]? = some v := ⟨_, List.getElem?_eq_getElem hlj⟩
                  obtain ⟨v0, v1, v2, v3⟩ := At.l4 (hc3 j v.cells (by simp [hv]))
                  have hlb3 : b3 < wi.heap.size := by omega
                  have hjl : (j : Int) < (r.vs.length : Int) := by omega
                  have hj0 : (0 : Int) ≤ (j : Int) := by omega
                  have HR : Hid ((fitsB c.kind v && ((r.vs.drop (j + 1)).all (fitsB c.kind) && RR)) = T) := by show _ = _; rw [← HR.out, all_dropV hv, Bool.and_assoc]
                  have FT := hide (fun w' => fits_any c.kind v w' (HSTR.out v (List.mem_of_getElem? hv)))
                  have cc := HCW.out.fut (w' := wi)
                  obtain ⟨x0, x1, x2⟩ := At.z3 cc.at0
                  have lc := cc.lt
                  rw [hA3]
                  clear hc3 hv hA3 cc
                  cases hft : fitsB c.kind v with
                  | false =>
                    obtain rfl : T = false := by rw [← HR.out, hft]; rfl
                    rw [hft] at FT
                    clear hft
                    go_wp2_with (go_at_call 37; (with_reducible refine (FT.out _).mono ?_); rintro e w5 ⟨rfl, hs5⟩)
                    go_ret
                    exact ⟨rfl, Step.of⟩
                  | true =>
                    have HR2 : Hid (((r.vs.drop (j + 1)).all (fitsB c.kind) && RR) = T) := by show _ = _; rw [← HR.out, hft]; rfl
                    rw [hft] at FT
                    clear hft HR
                    go_wp2_with (go_at_call 37; (with_reducible refine (FT.out _).mono ?_); rintro e w5 ⟨rfl, hs5⟩)
                    go_roundw
                    case rel => exact ⟨j + 1, by omega, by go_num, HR2.out, Step.of⟩
                    case measure => simp [intOf]; omega
                · obtain rfl : j = r.vs.length := by omega
                  have HR2 : Hid (RR = T) := by show _ = _; rw [← HR.out, List.drop_length]; rfl
                  go_wp2_with fail
                  go_roundw
                  case rel => exact ⟨n + 1, c.id, by omega, by go_num, rfl, by show _ = _; rw [HRR.out, HR2.out], Step.of⟩
                  case measure => simp [intOf]; omega
            · have h3b : ((r.vs.length : Int) != d.rows) = true := by simpa using h3
              obtain rfl : T = false := by rw [← HR.out, HCB.out, decide_eq_false h3]; simp
              clear h3
              go_wp2_with fail
              go_quiet ((go_at_call 36; exact Calls.quiet_of_same ((VK.out _).mono fun _ _ h => ⟨h.1, h.2.symm⟩)))
              go_wp2_with fail
              go_ret
              exact ⟨rfl, Step.of⟩
        · have h2b : c.name.toList.isEmpty = false := empty_no h2
          have h2c : (!c.name.toList.isEmpty) = true := by rw [h2b]; rfl
          obtain rfl : T = false := by rw [← HR.out, HCB.out, show (c.name.size == 0) = false by simpa using h2]; simp
          go_wp2_with fail
          go_quiet (fail)
          go_wp2_with fail
          go_ret
          exact ⟨rfl, Step.of⟩
      · obtain rfl : n = d.cols.length := by omega
        obtain rfl : T = true := by rw [← HR.out, List.drop_length]; rfl
        go_wp2_with fail
        go_ret
        exact ⟨rfl, Step.of⟩
  · have HF : Hid (T = false) := by
      show _ = _
      rw [← HT.out]
      cases e2 : fileB d.rows d.cols d.vss with
      | false => rfl
      | true => exact absurd (fileB_iff.1 e2).1 hd
    obtain rfl : T = false := HF.out
    clear HF HT
    rw [HLN.out] at hd
    by_cases h1 : 0 ≤ d.rows
    · by_cases h2 : d.rows ≤ 4096
      · by_cases h3 : 1 ≤ d.cols.length
        · by_cases h4 : d.cols.length ≤ 12
          · have h5 : d.vals.length ≠ d.cols.length := fun e => hd ⟨h1, h2, h3, h4, e⟩
            have g3 : decide ((d.cols.length : Int) < 1) = false := by simp; omega
            have g4 : decide (12 < (d.cols.length : Int)) = false := by simp; omega
            have g5 : ((d.vals.length : Int) != (d.cols.length : Int)) = true := by simp; omega
            clear hd h5
            go_enter Tryd.func19, Tryd.ntmps19
            go_wp2_with fail
            go_ret
            exact ⟨rfl, Step.of⟩
          · have g3 : decide ((d.cols.length : Int) < 1) = false := by simp; omega
            have g4 : decide (12 < (d.cols.length : Int)) = true := by simp; omega
            clear hd
            go_enter Tryd.func19, Tryd.ntmps19
            go_wp2_with fail
            go_ret
            exact ⟨rfl, Step.of⟩
        · have g3 : decide ((d.cols.length : Int) < 1) = true := by simp; omega
          clear hd
          go_enter Tryd.func19, Tryd.ntmps19
          go_wp2_with fail
          go_ret
          exact ⟨rfl, Step.of⟩
      · have g2 : decide (4096 < d.rows) = true := by simp; omega
        clear hd
        go_enter Tryd.func19, Tryd.ntmps19
        go_wp2_with fail
        go_ret
        exact ⟨rfl, Step.of⟩
    · have g1 : decide (d.rows < 0) = true := by simp; omega
      clear hd
      go_enter Tryd.func19, Tryd.ntmps19
      go_wp2_with fail
      go_ret
      exact ⟨rfl, Step.of⟩
end Go.Proofs.YtinpnginjpfbpaaDoor
