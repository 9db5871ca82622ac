/-
  The document's FileMay.
-/
import Derived.Test.YtinpnginjpfbpaaDoorVh
import Derived.Test.YtinpnginjpfbpaaDoorYt
namespace Go.Proofs.YtinpnginjpfbpaaDoor
open Go.RowKit

set_option maxRecDepth 100000 in
set_option maxHeartbeats 16000000 in
theorem rfile_any {w0 : World} (d : DatA) (w : World) (h : DatIn w0 d) [f0 : Fut w0 w] :
    Calls Tryd.prog 24 #[.agg #[.int .i64 d.rows, .slice d.A d.cols.length d.cap, .slice d.Av d.vals.length d.cv]] w fun e w' => e = .returned (.bool (fileB d.rows d.cols d.vss)) ∧ Step w w' := by
  have z0 := f0.below.size
  obtain ⟨T, hT⟩ : ∃ T, fileB d.rows d.cols d.vss = T := ⟨_, rfl⟩
  have HT := hide hT
  rw [hT]
  clear hT
  have hlen : d.vss.length = d.vals.length := by simp [DatA.vss]
  have HLN := hide hlen
  have hvl := h.vals.hcap; have hvm := h.vals.hcapm
  have hcl := h.clen
  obtain ⟨W, hW⟩ : ∃ W, W = w.alloc (.cells #[.int .i64 d.rows, .slice d.A d.cols.length d.cap, .slice d.Av d.vals.length d.cv] 27) := ⟨_, rfl⟩
  have SW : Step w W := by rw [hW]; exact Step.of
  have HDB : Hid (Blk W w.heap.size 27 [.int .i64 d.rows, .slice d.A d.cols.length d.cap, .slice d.Av d.vals.length d.cv]) := by rw [hW]; exact Blk.new w [.int .i64 d.rows, .slice d.A d.cols.length d.cap, .slice d.Av d.vals.length d.cv] 27
  have HW := hide hW
  have hzW := SW.size
  clear hW hlen
  by_cases hd : 0 ≤ d.rows ∧ d.rows ≤ 4096 ∧ 1 ≤ d.cols.length ∧ d.cols.length ≤ 12 ∧ d.vss.length = d.cols.length
  · obtain ⟨r0, r1, c0, c1, hvc⟩ := hd
    have HR : Hid (colsB d.rows 0 d.cols d.vss = T) := by
      show _ = _
      rw [← HT.out]
      cases e : colsB d.rows 0 d.cols d.vss with
      | true => exact (fileB_iff.2 ⟨⟨r0, r1, c0, c1, hvc⟩, e⟩).symm
      | false =>
        cases e2 : fileB d.rows d.cols d.vss with
        | false => rfl
        | true => rw [(fileB_iff.1 e2).2] at e; cases e
    rw [HLN.out] at hvc
    have HVC := hide hvc
    rw [hvc] at HDB HW hvl
    rw [hvc]
    clear hvc
    go_enter Tryd.func24, Tryd.ntmps24
    go_wp2_with fail
    have SWo := SW
    rw [← HW.out]
    go_loopw [3, 4, 5, 6, 7] (fun k _ _ _ _ wr => ∃ (n : Nat) (last : Int), n ≤ d.cols.length ∧ k = .int .i64 n ∧ 0 ≤ last ∧ Hid (n = 0 → last = 0) ∧ Hid (∀ m : Nat, n = m + 1 → ∃ c', d.cols[m]? = some c' ∧ c'.id = last) ∧ Hid (colsB d.rows last (d.cols.drop n) (d.vss.drop n) = T) ∧ Step W wr) (fun k _ _ _ _ _ => d.cols.length - (intOf k).toNat)
    case atStart => exact ⟨0, 0, Nat.zero_le _, rfl, Int.le_refl _, fun _ => rfl, fun m e => by omega, HR.out, Step.of⟩
    case round =>
      clear HR
      obtain ⟨n, last, hn, rfl, hl0, HL0, HLM, HR, hst⟩ := hrel
      obtain ⟨wo, rfl⟩ : ∃ x : World, x = wr := ⟨_, rfl⟩
      have hzo := hst.size
      have hd_ := HDB.out.fut (w' := wo)
      obtain ⟨y0, y1, y2⟩ := At.z3 hd_.at0
      have ly := hd_.lt
      clear hd_
      by_cases hlt : n < d.cols.length
      · obtain ⟨b, off, hA, hb, hc⟩ := h.cat.elem (w' := wo) inferInstance (k := n) (by simpa using hlt)
        obtain ⟨c, hck⟩ : ∃ c, d.cols[n]? = some c := ⟨_, List.getElem?_eq_getElem hlt⟩
        obtain ⟨p0, p1, p2⟩ := At.l3 (hc n c.cells (by simp [hck]))
        obtain ⟨b2, off2, hA2, hb2, r, hrk, hri, q0⟩ := h.vals.row (w' := wo) inferInstance (k := n) (by rw [HVC.out]; exact hlt)
        have hvk : d.vss[n]? = some r.vs := by simp [DatA.vss, hrk]
        have hcapr := hri.hcap; have hcapmr := hri.hcapm
        have HR : Hid ((colB d.rows last c r.vs && colsB d.rows c.id (d.cols.drop (n + 1)) (d.vss.drop (n + 1))) = T) := by
          show _ = _
          rw [← HR.out, List.drop_eq_getElem_cons hlt, List.drop_eq_getElem_cons (List.getElem?_eq_some_iff.1 hvk).1, (List.getElem?_eq_some_iff.1 hck).2, (List.getElem?_eq_some_iff.1 hvk).2, colsB_cons]
        have HSTR := hide hri.strs
        have HRI := hide hri
        have hnl : (n : Int) < (d.cols.length : Int) := by omega
        have hn0 : (0 : Int) ≤ (n : Int) := by omega
        have hlb : b < wo.heap.size := by omega
        have hlb2 : b2 < wo.heap.size := by omega
        have HCK := hide hck
        have HPREV : Hid (∀ m : Nat, n = m + 1 → ∃ c' : Col, c'.id = last ∧ ∀ w' [Fut wo w'], w'.cell? ⟨b, off + m * 3, none⟩ = some (.int .i64 c'.id)) := fun m e => by
          obtain ⟨c', h1, h2⟩ := HLM.out m e
          refine ⟨c', h2, fun w' _ => ?_⟩
          haveI : Fut w0 w' := ⟨(fut w0 wo).trans ((fut wo w').mono (fut w0 wo).size)⟩
          obtain ⟨b', off', hA', _, hc'⟩ := h.cat.elem (w' := w') inferInstance (k := m) (by simp; omega)
          rw [hA] at hA'
          cases hA'
          exact (At.l3 (hc' m c'.cells (by simp [h1]))).1
        rw [hA] at y1
        rw [hA2] at y2
        have HAA := hide hA; have HAA2 := hide hA2
        rw [hA, hA2]
        clear hc hck hvk hrk hA hA2 hri
        have HCB : Hid (colB d.rows last c r.vs = (decide (last < c.id) && c.name.size == 0 && kindB c.kind && decide ((r.vs.length : Int) = d.rows) && r.vs.all (fitsB c.kind))) := hide rfl
        go_upto_region 7 with (fail)
        obtain ⟨wN, hwN⟩ : ∃ x, x = wo.alloc (.cells #[.int .i64 c.id, .string c.name, .int .i64 c.kind] 53) := ⟨_, rfl⟩
        have hBN : Blk wN wo.heap.size 53 [.int .i64 c.id, .string c.name, .int .i64 c.kind] := by rw [hwN]; exact Blk.new wo [.int .i64 c.id, .string c.name, .int .i64 c.kind] 53
        have hsN : Step wo wN := by rw [hwN]; exact Step.of
        rw [← hwN]
        clear hwN
        replace q0 := ((bcell (fut wo wN)).1 b2 (off2 + n) hlb2).trans q0
        clear p0 p1 p2 y0 y1 y2 ly
        have hd_ := HDB.out.fut (w' := wN)
        obtain ⟨y0, y1, y2⟩ := At.z3 hd_.at0
        have ly := hd_.lt
        clear hd_
        rw [HAA.out] at y1
        rw [HAA2.out] at y2
        obtain ⟨x0, x1, x2⟩ := At.z3 hBN.at0
        have lx := hBN.lt
        have HBN := hide hBN
        clear hBN
        have hzN := hsN.size
        have hlbN : b < wN.heap.size := by omega
        have hlb2N : b2 < wN.heap.size := by omega
        by_cases h1 : c.id < 1
        · obtain rfl : T = false := by rw [← HR.out, HCB.out, decide_eq_false (by omega)]; rfl
          go_wp2_with fail
          go_quiet (fail)
          go_wp2_with fail
          go_ret
          exact ⟨rfl, Step.of⟩
        have h1b : decide (c.id < 1) = false := by simp; omega
        by_cases hn1 : n = 0
        · have hng : decide ((0 : Int) < (n : Int)) = false := by simp; omega
          have hng2 : decide (0 < n) = false := by simp; omega
          have hlc : last < c.id := by rw [HL0.out hn1]; omega
          have HLC := hide hlc
          clear hlc hn1
          by_cases h2 : c.name.size = 0
          · have h2b : c.name.toList.isEmpty = true := empty_yes h2
            have h2c : (!c.name.toList.isEmpty) = false := by rw [h2b]; rfl
            by_cases h3 : (r.vs.length : Int) = d.rows
            · have h3b : ((r.vs.length : Int) != d.rows) = false := by simpa using h3
              have HR : Hid (((kindB c.kind && r.vs.all (fitsB c.kind)) && colsB d.rows c.id (d.cols.drop (n + 1)) (d.vss.drop (n + 1))) = T) := by
                show _ = _
                rw [← HR.out, HCB.out, decide_eq_true HLC.out, decide_eq_true h3, h2]
                simp
              have hrl : r.vs.length ≤ 4096 := by omega
              have VC := hide (fun w' [Fut w0 w'] => vec_any c.kind r.vs r.A r.cap w' HRI.out.at_ hrl HSTR.out)
              have H3 := hide h3
              have HID1 : Hid (0 ≤ c.id) := by show _ ≤ _; omega
              clear h3 h2 HCB
              go_wp2_with fail
              go_quiet (fail)
              go_upto_region 9 with (fail)
              obtain ⟨wR, hwR⟩ : ∃ x, x = wN.drewN nq := ⟨_, rfl⟩
              have hsR : Step wN wR := by rw [hwR]; exact Step.of
              rw [← hwR]
              clear hwR
              have hzR := hsR.size
              replace q0 := ((bcell (fut wN wR)).1 b2 (off2 + n) hlb2N).trans q0
              clear y0 y1 y2 ly x0 x1 x2 lx
              have hd_ := HDB.out.fut (w' := wR)
              obtain ⟨y0, y1, y2⟩ := At.z3 hd_.at0
              have ly := hd_.lt
              clear hd_
              rw [HAA2.out] at y2
              have hd_ := HBN.out.fut (w' := wR)
              obtain ⟨x0, x1, x2⟩ := At.z3 hd_.at0
              have lx := hd_.lt
              clear hd_
              have hlb2R : b2 < wR.heap.size := by omega
              refine wp_region_held_drew (S := (fun w' => Step wR w' ∧ (∀ b o, b < wR.heap.size → w'.cell? ⟨b, o, none⟩ = wR.cell? ⟨b, o, none⟩))) (by kernel_rfl) (by (try dsimp only); (first | exact ⟨hS1, hS2⟩ | exact ⟨Step.of, (bcell (fut _ _)).1⟩)) (fun hHeld => ?_)
              refine wpAnyH_take (i := 0) (oi := ⟨some 86, _, _, _, _, _⟩) (v := ?_) rfl (by kernel_rfl) (by kernel_rfl) (by kernel_rfl) (fun _ _ _ h => h) (Or.inl ⟨by rfl, ?_⟩) (by assumption) ?_
              rotate_left
              · ((intro w hSw); (try dsimp only at hSw); go_simp; (try with_reducible rfl))
              (try simp only [Act.put, List.setIfInBounds_toArray, List.set_cons_zero, List.set_cons_succ])
              refine wpAnyH_take (i := 2) (oi := ⟨some 88, _, _, _, _, _⟩) (v := ?_) rfl (by kernel_rfl) (by kernel_rfl) (by kernel_rfl) (fun _ _ _ h => h) (Or.inl ⟨by rfl, ?_⟩) (by assumption) ?_
              rotate_left
              · ((intro w hSw); (try dsimp only at hSw); go_simp; (try with_reducible rfl))
              (try simp only [Act.put, List.setIfInBounds_toArray, List.set_cons_zero, List.set_cons_succ])
              refine wpAnyH_take (i := 4) (oi := ⟨some 90, _, _, _, _, _⟩) (v := ?_) rfl (by kernel_rfl) (by kernel_rfl) (by kernel_rfl) (fun _ _ _ h => h) (Or.inl ⟨by rfl, ?_⟩) (by assumption) ?_
              rotate_left
              · ((intro w hSw); (try dsimp only at hSw); go_simp; (try with_reducible rfl))
              (try simp only [Act.put, List.setIfInBounds_toArray, List.set_cons_zero, List.set_cons_succ])
              refine wpAnyH_take (i := 1) (oi := ⟨some 87, _, _, _, _, _⟩) (v := ?_) rfl (by kernel_rfl) (by kernel_rfl) (by kernel_rfl) (fun _ _ _ h => h) (Or.inl ⟨by rfl, ?_⟩) (by assumption) ?_
              rotate_left
              · ((intro w hSw); (try dsimp only at hSw); go_simp; (try with_reducible rfl))
              (try simp only [Act.put, List.setIfInBounds_toArray, List.set_cons_zero, List.set_cons_succ])
              refine wpAnyH_take (i := 3) (oi := ⟨some 89, _, _, _, _, _⟩) (v := ?_) rfl (by kernel_rfl) (by kernel_rfl) (by kernel_rfl) (fun _ _ _ h => h) (Or.inl ⟨by rfl, ?_⟩) (by assumption) ?_
              rotate_left
              · ((intro w hSw); (try dsimp only at hSw); go_simp; (try with_reducible rfl))
              (try simp only [Act.put, List.setIfInBounds_toArray, List.set_cons_zero, List.set_cons_succ])
              refine wpAnyH_take (i := 5) (oi := ⟨some 91, _, _, _, _, _⟩) (v := ?_) rfl (by kernel_rfl) (by kernel_rfl) (by kernel_rfl) (fun _ _ _ h => h) (Or.inl ⟨by rfl, ?_⟩) (by assumption) ?_
              rotate_left
              · ((intro w hSw); (try dsimp only at hSw); go_simp; (try with_reducible rfl))
              (try simp only [Act.put, List.setIfInBounds_toArray, List.set_cons_zero, List.set_cons_succ])
              refine wpAnyH_take (i := 6) (oi := ⟨some 92, _, _, _, _, _⟩) (v := ?_) rfl (by kernel_rfl) (by kernel_rfl) (by kernel_rfl) (fun _ _ _ h => h) (Or.inl ⟨by rfl, ?_⟩) (by assumption) ?_
              rotate_left
              · ((intro w hSw); (try dsimp only at hSw); go_simp; (try with_reducible rfl))
              (try simp only [Act.put, List.setIfInBounds_toArray, List.set_cons_zero, List.set_cons_succ])
              refine wpAnyH_take (i := 7) (oi := ⟨some 93, _, _, _, _, _⟩) (v := ?_) rfl (by kernel_rfl) (by kernel_rfl) (by kernel_rfl) (fun _ _ _ h => h) (Or.inl ⟨by rfl, ?_⟩) (by assumption) ?_
              rotate_left
              · ((intro w hSw); (try dsimp only at hSw); go_simp; (try with_reducible rfl))
              (try simp only [Act.put, List.setIfInBounds_toArray, List.set_cons_zero, List.set_cons_succ])
              refine wpAnyH_ready (rs := [8]) (by kernel_rfl) (by simp) ?_
              refine AllReadyH.cons (o := ⟨some 94, _, _, _, _, _⟩) rfl (fun K hK => ?_) AllReadyH.nil
              obtain ⟨hS1, hS2⟩ := hHeld
              go_simp
              (go_at_call 40; (with_reducible refine (VC.out _).mono ?_); rintro e w5 ⟨bb, best, code, rfl, hvr, hs5⟩)
              refine hK.out _ _ (by (try dsimp only); (first | exact ⟨hS1, hS2⟩ | exact ⟨Step.of, (bcell (fut _ _)).1⟩)) (fun hHeld => ?_)
              clear hK K
              (try simp only [Act.put, List.setIfInBounds_toArray, List.set_cons_zero, List.set_cons_succ])
              refine wpAnyH_take (i := 9) (oi := ⟨some 85, _, _, _, _, _⟩) (v := ?_) rfl (by kernel_rfl) (by kernel_rfl) (by kernel_rfl) (fun _ _ _ h => h) (Or.inl ⟨by rfl, ?_⟩) (by assumption) ?_
              rotate_left
              · ((intro w hSw); (try dsimp only at hSw); go_simp; (try with_reducible rfl))
              (try simp only [Act.put, List.setIfInBounds_toArray, List.set_cons_zero, List.set_cons_succ])
              refine wpAnyH_take (i := 10) (oi := ⟨some 95, _, _, _, _, _⟩) (v := ?_) rfl (by kernel_rfl) (by kernel_rfl) (by kernel_rfl) (fun _ _ _ h => h) (Or.inl ⟨by rfl, ?_⟩) (by assumption) ?_
              rotate_left
              · ((intro w hSw); (try dsimp only at hSw); go_simp; (try with_reducible rfl))
              (try simp only [Act.put, List.setIfInBounds_toArray, List.set_cons_zero, List.set_cons_succ])
              refine wpAnyH_take (i := 11) (oi := ⟨some 96, _, _, _, _, _⟩) (v := ?_) rfl (by kernel_rfl) (by kernel_rfl) (by kernel_rfl) (fun _ _ _ h => h) (Or.inl ⟨by rfl, ?_⟩) (by assumption) ?_
              rotate_left
              · ((intro w hSw); (try dsimp only at hSw); go_simp; (try with_reducible rfl))
              (try simp only [Act.put, List.setIfInBounds_toArray, List.set_cons_zero, List.set_cons_succ])
              refine wpAnyH_take (i := 12) (oi := ⟨some 97, _, _, _, _, _⟩) (v := ?_) rfl (by kernel_rfl) (by kernel_rfl) (by kernel_rfl) (fun _ _ _ h => h) (Or.inl ⟨by rfl, ?_⟩) (by assumption) ?_
              rotate_left
              · ((intro w hSw); (try dsimp only at hSw); go_simp; (try with_reducible rfl))
              (try simp only [Act.put, List.setIfInBounds_toArray, List.set_cons_zero, List.set_cons_succ])
              refine wpAnyH_take (i := 13) (oi := ⟨some 5, _, _, _, _, _⟩) (v := ?_) rfl (by kernel_rfl) (by kernel_rfl) (by kernel_rfl) (fun _ _ _ h => h) (Or.inl ⟨by rfl, ?_⟩) (by assumption) ?_
              rotate_left
              · ((intro w hSw); (try dsimp only at hSw); go_simp; (try with_reducible rfl))
              (try simp only [Act.put, List.setIfInBounds_toArray, List.set_cons_zero, List.set_cons_succ])
              refine wpAnyH_take (i := 14) (oi := ⟨some 6, _, _, _, _, _⟩) (v := ?_) rfl (by kernel_rfl) (by kernel_rfl) (by kernel_rfl) (fun _ _ _ h => h) (Or.inl ⟨by rfl, ?_⟩) (by assumption) ?_
              rotate_left
              · ((intro w hSw); (try dsimp only at hSw); go_simp; (try with_reducible rfl))
              (try simp only [Act.put, List.setIfInBounds_toArray, List.set_cons_zero, List.set_cons_succ])
              refine wpAnyH_take (i := 15) (oi := ⟨some 7, _, _, _, _, _⟩) (v := ?_) rfl (by kernel_rfl) (by kernel_rfl) (by kernel_rfl) (fun _ _ _ h => h) (Or.inl ⟨by rfl, ?_⟩) (by assumption) ?_
              rotate_left
              · ((intro w hSw); (try dsimp only at hSw); go_simp; (try with_reducible rfl))
              (try simp only [Act.put, List.setIfInBounds_toArray, List.set_cons_zero, List.set_cons_succ])
              refine wpAnyH_done (by kernel_rfl) ?_ _
              by_cases hcd : code = 0
              · have HG := hide (hvr.ok hcd)
                obtain rfl := hcd
                have HR2 : Hid (colsB d.rows c.id (d.cols.drop (n + 1)) (d.vss.drop (n + 1)) = T) := by show _ = _; rw [← HR.out, HG.out.1, HG.out.2]; rfl
                go_wp2_with fail
                go_roundw
                case rel => exact ⟨n + 1, c.id, by omega, by go_num, HID1.out, fun e => by omega, fun m_ e => ⟨c, by obtain rfl : m_ = n := (by omega); exact HCK.out, rfl⟩, HR2.out, Step.of⟩
                case measure => simp [intOf]; omega
              · have hb_ : (kindB c.kind && r.vs.all (fitsB c.kind)) = false := by
                  cases e : (kindB c.kind && r.vs.all (fitsB c.kind)) with
                  | false => rfl
                  | true => exact absurd (by simpa using e) (by have := hvr.no hcd; simpa using this)
                obtain rfl : T = false := by rw [← HR.out, hb_]; rfl
                clear hb_
                go_wp2_with fail
                go_ret
                exact ⟨rfl, Step.of⟩
            · have h3b : ((r.vs.length : Int) != d.rows) = true := by simpa using h3
              obtain rfl : T = false := by rw [← HR.out, HCB.out, decide_eq_false h3]; simp
              clear h3
              go_wp2_with fail
              go_quiet (fail)
              go_wp2_with fail
              go_ret
              exact ⟨rfl, Step.of⟩
          · have h2b : c.name.toList.isEmpty = false := empty_no h2
            have h2c : (!c.name.toList.isEmpty) = true := by rw [h2b]; rfl
            obtain rfl : T = false := by rw [← HR.out, HCB.out, show (c.name.size == 0) = false by simpa using h2]; simp
            go_wp2_with fail
            go_quiet (fail)
            go_wp2_with fail
            go_ret
            exact ⟨rfl, Step.of⟩
        · have hng : decide ((0 : Int) < (n : Int)) = true := by simp; omega
          have hng2 : decide (0 < n) = true := by simp; omega
          obtain ⟨m, hm⟩ : ∃ m, n = m + 1 := ⟨n - 1, by omega⟩
          have hwn : IntKind.i64.wrap ((n : Int) - 1) = (m : Int) := by rw [IntKind.wrap_i64]; omega
          have hm0 : (0 : Int) ≤ (m : Int) := by omega
          have hml : (m : Int) < (d.cols.length : Int) := by omega
          obtain ⟨c', hc', hpc⟩ := HPREV.out m hm
          replace hpc := hpc wN
          rw [hc'] at hpc
          have HM := hide hm
          clear hc' hm hn1
          by_cases hge : c.id ≤ last
          · obtain rfl : T = false := by rw [← HR.out, HCB.out, decide_eq_false (by omega)]; rfl
            have hgb : decide (c.id ≤ last) = true := by simp; omega
            go_wp2_with fail
            go_quiet (fail)
            go_wp2_with fail
            go_ret
            exact ⟨rfl, Step.of⟩
          · have hlc : last < c.id := by omega
            have HLC := hide hlc
            have hgb : decide (c.id ≤ last) = false := by simp; omega
            clear hlc hge
            by_cases h2 : c.name.size = 0
            · have h2b : c.name.toList.isEmpty = true := empty_yes h2
              have h2c : (!c.name.toList.isEmpty) = false := by rw [h2b]; rfl
              by_cases h3 : (r.vs.length : Int) = d.rows
              · have h3b : ((r.vs.length : Int) != d.rows) = false := by simpa using h3
                have HR : Hid (((kindB c.kind && r.vs.all (fitsB c.kind)) && colsB d.rows c.id (d.cols.drop (n + 1)) (d.vss.drop (n + 1))) = T) := by
                  show _ = _
                  rw [← HR.out, HCB.out, decide_eq_true HLC.out, decide_eq_true h3, h2]
                  simp
                have hrl : r.vs.length ≤ 4096 := by omega
                have VC := hide (fun w' [Fut w0 w'] => vec_any c.kind r.vs r.A r.cap w' HRI.out.at_ hrl HSTR.out)
                have H3 := hide h3
                have HID1 : Hid (0 ≤ c.id) := by show _ ≤ _; omega
                clear h3 h2 HCB
                go_wp2_with fail
                go_quiet (fail)
                go_upto_region 9 with (fail)
                obtain ⟨wR, hwR⟩ : ∃ x, x = wN.drewN nq := ⟨_, rfl⟩
                have hsR : Step wN wR := by rw [hwR]; exact Step.of
                rw [← hwR]
                clear hwR
                have hzR := hsR.size
                replace q0 := ((bcell (fut wN wR)).1 b2 (off2 + n) hlb2N).trans q0
                clear y0 y1 y2 ly x0 x1 x2 lx
                have hd_ := HDB.out.fut (w' := wR)
                obtain ⟨y0, y1, y2⟩ := At.z3 hd_.at0
                have ly := hd_.lt
                clear hd_
                rw [HAA2.out] at y2
                have hd_ := HBN.out.fut (w' := wR)
                obtain ⟨x0, x1, x2⟩ := At.z3 hd_.at0
                have lx := hd_.lt
                clear hd_
                have hlb2R : b2 < wR.heap.size := by omega
                refine wp_region_held_drew (S := (fun w' => Step wR w' ∧ (∀ b o, b < wR.heap.size → w'.cell? ⟨b, o, none⟩ = wR.cell? ⟨b, o, none⟩))) (by kernel_rfl) (by (try dsimp only); (first | exact ⟨hS1, hS2⟩ | exact ⟨Step.of, (bcell (fut _ _)).1⟩)) (fun hHeld => ?_)
                refine wpAnyH_take (i := 0) (oi := ⟨some 86, _, _, _, _, _⟩) (v := ?_) rfl (by kernel_rfl) (by kernel_rfl) (by kernel_rfl) (fun _ _ _ h => h) (Or.inl ⟨by rfl, ?_⟩) (by assumption) ?_
                rotate_left
                · ((intro w hSw); (try dsimp only at hSw); go_simp; (try with_reducible rfl))
                (try simp only [Act.put, List.setIfInBounds_toArray, List.set_cons_zero, List.set_cons_succ])
                refine wpAnyH_take (i := 2) (oi := ⟨some 88, _, _, _, _, _⟩) (v := ?_) rfl (by kernel_rfl) (by kernel_rfl) (by kernel_rfl) (fun _ _ _ h => h) (Or.inl ⟨by rfl, ?_⟩) (by assumption) ?_
                rotate_left
                · ((intro w hSw); (try dsimp only at hSw); go_simp; (try with_reducible rfl))
                (try simp only [Act.put, List.setIfInBounds_toArray, List.set_cons_zero, List.set_cons_succ])
                refine wpAnyH_take (i := 4) (oi := ⟨some 90, _, _, _, _, _⟩) (v := ?_) rfl (by kernel_rfl) (by kernel_rfl) (by kernel_rfl) (fun _ _ _ h => h) (Or.inl ⟨by rfl, ?_⟩) (by assumption) ?_
                rotate_left
                · ((intro w hSw); (try dsimp only at hSw); go_simp; (try with_reducible rfl))
                (try simp only [Act.put, List.setIfInBounds_toArray, List.set_cons_zero, List.set_cons_succ])
                refine wpAnyH_take (i := 1) (oi := ⟨some 87, _, _, _, _, _⟩) (v := ?_) rfl (by kernel_rfl) (by kernel_rfl) (by kernel_rfl) (fun _ _ _ h => h) (Or.inl ⟨by rfl, ?_⟩) (by assumption) ?_
                rotate_left
                · ((intro w hSw); (try dsimp only at hSw); go_simp; (try with_reducible rfl))
                (try simp only [Act.put, List.setIfInBounds_toArray, List.set_cons_zero, List.set_cons_succ])
                refine wpAnyH_take (i := 3) (oi := ⟨some 89, _, _, _, _, _⟩) (v := ?_) rfl (by kernel_rfl) (by kernel_rfl) (by kernel_rfl) (fun _ _ _ h => h) (Or.inl ⟨by rfl, ?_⟩) (by assumption) ?_
                rotate_left
                · ((intro w hSw); (try dsimp only at hSw); go_simp; (try with_reducible rfl))
                (try simp only [Act.put, List.setIfInBounds_toArray, List.set_cons_zero, List.set_cons_succ])
                refine wpAnyH_take (i := 5) (oi := ⟨some 91, _, _, _, _, _⟩) (v := ?_) rfl (by kernel_rfl) (by kernel_rfl) (by kernel_rfl) (fun _ _ _ h => h) (Or.inl ⟨by rfl, ?_⟩) (by assumption) ?_
                rotate_left
                · ((intro w hSw); (try dsimp only at hSw); go_simp; (try with_reducible rfl))
                (try simp only [Act.put, List.setIfInBounds_toArray, List.set_cons_zero, List.set_cons_succ])
                refine wpAnyH_take (i := 6) (oi := ⟨some 92, _, _, _, _, _⟩) (v := ?_) rfl (by kernel_rfl) (by kernel_rfl) (by kernel_rfl) (fun _ _ _ h => h) (Or.inl ⟨by rfl, ?_⟩) (by assumption) ?_
                rotate_left
                · ((intro w hSw); (try dsimp only at hSw); go_simp; (try with_reducible rfl))
                (try simp only [Act.put, List.setIfInBounds_toArray, List.set_cons_zero, List.set_cons_succ])
                refine wpAnyH_take (i := 7) (oi := ⟨some 93, _, _, _, _, _⟩) (v := ?_) rfl (by kernel_rfl) (by kernel_rfl) (by kernel_rfl) (fun _ _ _ h => h) (Or.inl ⟨by rfl, ?_⟩) (by assumption) ?_
                rotate_left
                · ((intro w hSw); (try dsimp only at hSw); go_simp; (try with_reducible rfl))
                (try simp only [Act.put, List.setIfInBounds_toArray, List.set_cons_zero, List.set_cons_succ])
                refine wpAnyH_ready (rs := [8]) (by kernel_rfl) (by simp) ?_
                refine AllReadyH.cons (o := ⟨some 94, _, _, _, _, _⟩) rfl (fun K hK => ?_) AllReadyH.nil
                obtain ⟨hS1, hS2⟩ := hHeld
                go_simp
                (go_at_call 40; (with_reducible refine (VC.out _).mono ?_); rintro e w5 ⟨bb, best, code, rfl, hvr, hs5⟩)
                refine hK.out _ _ (by (try dsimp only); (first | exact ⟨hS1, hS2⟩ | exact ⟨Step.of, (bcell (fut _ _)).1⟩)) (fun hHeld => ?_)
                clear hK K
                (try simp only [Act.put, List.setIfInBounds_toArray, List.set_cons_zero, List.set_cons_succ])
                refine wpAnyH_take (i := 9) (oi := ⟨some 85, _, _, _, _, _⟩) (v := ?_) rfl (by kernel_rfl) (by kernel_rfl) (by kernel_rfl) (fun _ _ _ h => h) (Or.inl ⟨by rfl, ?_⟩) (by assumption) ?_
                rotate_left
                · ((intro w hSw); (try dsimp only at hSw); go_simp; (try with_reducible rfl))
                (try simp only [Act.put, List.setIfInBounds_toArray, List.set_cons_zero, List.set_cons_succ])
                refine wpAnyH_take (i := 10) (oi := ⟨some 95, _, _, _, _, _⟩) (v := ?_) rfl (by kernel_rfl) (by kernel_rfl) (by kernel_rfl) (fun _ _ _ h => h) (Or.inl ⟨by rfl, ?_⟩) (by assumption) ?_
                rotate_left
                · ((intro w hSw); (try dsimp only at hSw); go_simp; (try with_reducible rfl))
                (try simp only [Act.put, List.setIfInBounds_toArray, List.set_cons_zero, List.set_cons_succ])
                refine wpAnyH_take (i := 11) (oi := ⟨some 96, _, _, _, _, _⟩) (v := ?_) rfl (by kernel_rfl) (by kernel_rfl) (by kernel_rfl) (fun _ _ _ h => h) (Or.inl ⟨by rfl, ?_⟩) (by assumption) ?_
                rotate_left
                · ((intro w hSw); (try dsimp only at hSw); go_simp; (try with_reducible rfl))
                (try simp only [Act.put, List.setIfInBounds_toArray, List.set_cons_zero, List.set_cons_succ])
                refine wpAnyH_take (i := 12) (oi := ⟨some 97, _, _, _, _, _⟩) (v := ?_) rfl (by kernel_rfl) (by kernel_rfl) (by kernel_rfl) (fun _ _ _ h => h) (Or.inl ⟨by rfl, ?_⟩) (by assumption) ?_
                rotate_left
                · ((intro w hSw); (try dsimp only at hSw); go_simp; (try with_reducible rfl))
                (try simp only [Act.put, List.setIfInBounds_toArray, List.set_cons_zero, List.set_cons_succ])
                refine wpAnyH_take (i := 13) (oi := ⟨some 5, _, _, _, _, _⟩) (v := ?_) rfl (by kernel_rfl) (by kernel_rfl) (by kernel_rfl) (fun _ _ _ h => h) (Or.inl ⟨by rfl, ?_⟩) (by assumption) ?_
                rotate_left
                · ((intro w hSw); (try dsimp only at hSw); go_simp; (try with_reducible rfl))
                (try simp only [Act.put, List.setIfInBounds_toArray, List.set_cons_zero, List.set_cons_succ])
                refine wpAnyH_take (i := 14) (oi := ⟨some 6, _, _, _, _, _⟩) (v := ?_) rfl (by kernel_rfl) (by kernel_rfl) (by kernel_rfl) (fun _ _ _ h => h) (Or.inl ⟨by rfl, ?_⟩) (by assumption) ?_
                rotate_left
                · ((intro w hSw); (try dsimp only at hSw); go_simp; (try with_reducible rfl))
                (try simp only [Act.put, List.setIfInBounds_toArray, List.set_cons_zero, List.set_cons_succ])
                refine wpAnyH_take (i := 15) (oi := ⟨some 7, _, _, _, _, _⟩) (v := ?_) rfl (by kernel_rfl) (by kernel_rfl) (by kernel_rfl) (fun _ _ _ h => h) (Or.inl ⟨by rfl, ?_⟩) (by assumption) ?_
                rotate_left
                · ((intro w hSw); (try dsimp only at hSw); go_simp; (try with_reducible rfl))
                (try simp only [Act.put, List.setIfInBounds_toArray, List.set_cons_zero, List.set_cons_succ])
                refine wpAnyH_done (by kernel_rfl) ?_ _
                by_cases hcd : code = 0
                · have HG := hide (hvr.ok hcd)
                  obtain rfl := hcd
                  have HR2 : Hid (colsB d.rows c.id (d.cols.drop (n + 1)) (d.vss.drop (n + 1)) = T) := by show _ = _; rw [← HR.out, HG.out.1, HG.out.2]; rfl
                  go_wp2_with fail
                  go_roundw
                  case rel => exact ⟨n + 1, c.id, by omega, by go_num, HID1.out, fun e => by omega, fun m_ e => ⟨c, by obtain rfl : m_ = n := (by omega); exact HCK.out, rfl⟩, HR2.out, Step.of⟩
                  case measure => simp [intOf]; omega
                · have hb_ : (kindB c.kind && r.vs.all (fitsB c.kind)) = false := by
                    cases e : (kindB c.kind && r.vs.all (fitsB c.kind)) with
                    | false => rfl
                    | true => exact absurd (by simpa using e) (by have := hvr.no hcd; simpa using this)
                  obtain rfl : T = false := by rw [← HR.out, hb_]; rfl
                  clear hb_
                  go_wp2_with fail
                  go_ret
                  exact ⟨rfl, Step.of⟩
              · have h3b : ((r.vs.length : Int) != d.rows) = true := by simpa using h3
                obtain rfl : T = false := by rw [← HR.out, HCB.out, decide_eq_false h3]; simp
                clear h3
                go_wp2_with fail
                go_quiet (fail)
                go_wp2_with fail
                go_ret
                exact ⟨rfl, Step.of⟩
            · have h2b : c.name.toList.isEmpty = false := empty_no h2
              have h2c : (!c.name.toList.isEmpty) = true := by rw [h2b]; rfl
              obtain rfl : T = false := by rw [← HR.out, HCB.out, show (c.name.size == 0) = false by simpa using h2]; simp
              go_wp2_with fail
              go_quiet (fail)
              go_wp2_with fail
              go_ret
              exact ⟨rfl, Step.of⟩
      · obtain rfl : n = d.cols.length := by omega
        obtain rfl : T = true := by rw [← HR.out, List.drop_length]; rfl
        go_wp2_with fail
        go_ret
        exact ⟨rfl, Step.of⟩
  · have HF : Hid (T = false) := by
      show _ = _
      rw [← HT.out]
      cases e2 : fileB d.rows d.cols d.vss with
      | false => rfl
      | true => exact absurd (fileB_iff.1 e2).1 hd
    obtain rfl : T = false := HF.out
    clear HF HT
    rw [HLN.out] at hd
    by_cases h1 : 0 ≤ d.rows
    · by_cases h2 : d.rows ≤ 4096
      · by_cases h3 : 1 ≤ d.cols.length
        · by_cases h4 : d.cols.length ≤ 12
          · have h5 : d.vals.length ≠ d.cols.length := fun e => hd ⟨h1, h2, h3, h4, e⟩
            have g3 : decide ((d.cols.length : Int) < 1) = false := by simp; omega
            have g4 : decide (12 < (d.cols.length : Int)) = false := by simp; omega
            have g5 : ((d.vals.length : Int) != (d.cols.length : Int)) = true := by simp; omega
            clear hd h5
            go_enter Tryd.func24, Tryd.ntmps24
            go_wp2_with fail
            go_ret
            exact ⟨rfl, Step.of⟩
          · have g3 : decide ((d.cols.length : Int) < 1) = false := by simp; omega
            have g4 : decide (12 < (d.cols.length : Int)) = true := by simp; omega
            clear hd
            go_enter Tryd.func24, Tryd.ntmps24
            go_wp2_with fail
            go_ret
            exact ⟨rfl, Step.of⟩
        · have g3 : decide ((d.cols.length : Int) < 1) = true := by simp; omega
          clear hd
          go_enter Tryd.func24, Tryd.ntmps24
          go_wp2_with fail
          go_ret
          exact ⟨rfl, Step.of⟩
      · have g2 : decide (4096 < d.rows) = true := by simp; omega
        clear hd
        go_enter Tryd.func24, Tryd.ntmps24
        go_wp2_with fail
        go_ret
        exact ⟨rfl, Step.of⟩
    · have g1 : decide (d.rows < 0) = true := by simp; omega
      clear hd
      go_enter Tryd.func24, Tryd.ntmps24
      go_wp2_with fail
      go_ret
      exact ⟨rfl, Step.of⟩
end Go.Proofs.YtinpnginjpfbpaaDoor
