import Derived.Test.YtfojdjmeefglcaaDoorE
import Derived.Test.YtfojdjmeefglcaaDoorSi
namespace Go.Proofs.YtfojdjmeefglcaaDoor
open Go.RowKit

set_option maxHeartbeats 2000000 in
theorem next_any (f : FuncId) (caps : Array Value) (s t : Sch) (A : Option Addr) (cap : Nat) (w : World)
    (hlen : s.cols.length ≤ 4398046511103) (hlent : t.cols.length ≤ 4398046511103) (hat : SlAt w w.heap.size 3 A (s.cols.map Col.cells)) (hid : -9223372036854775808 ≤ s.id ∧ s.id < 9223372036854775807) (hti : t.id = s.id + 1)
    (hnm : ∀ c ∈ t.cols, c.name.size ≤ 9223372036854775807)
    (hcall : ∀ args w, (callFunc f args).run Tryd.prog w = .ok (.enter f args) w)
    (hf : ∀ (w1 : World) (p base cap1 : Nat) (A1 : Option Addr), Below w.heap.size w w1 → w.heap.size ≤ p → p < base → base ≤ w1.heap.size → Blk w1 p 24 [.int .i64 t.id, .slice A1 s.cols.length cap1, .int .i64 s.next] →
      Own w1 base 49 3 (.slice A1 s.cols.length cap1) (s.cols.map Col.cells) →
      Calls Tryd.prog f (#[.pointer (some ⟨p, 0, none⟩)] ++ caps) w1 fun e w2 => e = .returned (.tuple #[]) ∧ ∃ A2 cap2, t.cols.length ≤ cap2 ∧ cap2 ≤ maxLen ∧ Blk w2 p 24 [.int .i64 t.id, .slice A2 t.cols.length cap2, .int .i64 t.next] ∧
        Own w2 base 49 3 (.slice A2 t.cols.length cap2) (t.cols.map Col.cells) ∧ Turned w1 w2 p (.slice A1 s.cols.length cap1)) :
    Calls Tryd.prog 63 #[s.val A cap, .func (.func f) #[] caps] w (SchRes w (nextR t)) := by
  obtain ⟨id, cols, nx⟩ := s
  obtain ⟨tid, tcols, tnx⟩ := t
  simp only at hti
  subst hti
  simp only [Sch.val] at *
  have HF := Lib.hid hf; clear hf
  have HN := Lib.hid hnm; clear hnm
  obtain ⟨i1, i2⟩ := hid
  go_enter Tryd.func63, Tryd.ntmps63
  go_wp2_with fail
  refine (clone_any A cap cols _ ((hat.al _).al _) hlen).mono ?_
  rintro e w1 ⟨A1, cap1, rfl, hc1, hc2, hown1, hb1⟩
  have HP := hide ((Blk.new w [.int .i64 id, .slice A cols.length cap, .int .i64 nx] 24).alloc (.cells #[.int .i64 0, .slice none 0 0, .int .i64 0] 24))
  have z1 := hb1.size
  simp only [hsz] at z1
  have HP1 := hide (HP.out.below hb1 (by simp only [hsz]; omega))
  obtain ⟨p0, p1, p2⟩ := At.z3 HP1.out.at0
  have f0 := HP1.out.free 0
  have f1 := HP1.out.free 1
  have HO := hide hown1; clear hown1
  have HB := hide hb1; clear hb1
  have s1 : w.heap.size < w1.heap.size := by omega
  go_wp2_with fail
  have HP2 := hide ((HP1.out.set_ 1 (.slice A1 cols.length cap1)).set_ 0 (.int .i64 (id + 1)))
  have HO2 := hide ((HO.out.set_other HP1.out (by decide) 1 (.slice A1 cols.length cap1)).set_other (HP1.out.set_ 1 (.slice A1 cols.length cap1)) (by decide) 0 (.int .i64 (id + 1)))
  have HR := hide ((Blk.new (w.alloc (.cells #[.int .i64 id, .slice A cols.length cap, .int .i64 nx] 24)) [.int .i64 0, .slice none 0 0, .int .i64 0] 24).below HB.out (by simp only [hsz]; omega))
  simp only [hsz] at HR
  have HR2 := hide ((HR.out.far (p := ⟨w.heap.size, 1, none⟩) (by simp) (.slice A1 cols.length cap1)).far (p := ⟨w.heap.size, 0, none⟩) (by simp) (.int .i64 (id + 1)))
  have HB2 : Hid (Below w.heap.size w ((w1.setCell ⟨w.heap.size, 1, none⟩ (.slice A1 cols.length cap1)).setCell ⟨w.heap.size, 0, none⟩ (.int .i64 (id + 1)))) :=
    ((below_from1 (below_from1 HB.out)).setCell (Nat.le_refl _) _).setCell (Nat.le_refl _) _
  clear p0 p1 p2 f0 f1
  obtain ⟨w2, hw2⟩ : ∃ w2, w2 = (w1.setCell ⟨w.heap.size, 1, none⟩ (.slice A1 cols.length cap1)).setCell ⟨w.heap.size, 0, none⟩ (.int .i64 (id + 1)) := ⟨_, rfl⟩
  have hz2 : w2.heap.size = w1.heap.size := by rw [hw2]; simp [World.setCell]
  have HZ := hide hz2; clear hz2
  rw [← hw2] at HP2 HO2 HR2 HB2 ⊢
  clear hw2
  refine (HF.out w2 w.heap.size (w.heap.size + 2) cap1 A1 HB2.out (Nat.le_refl _) (by omega) (by rw [HZ.out]; omega) HP2.out (HO2.out.more (by simp only [hsz]; omega))).mono ?_
  rintro e w3 ⟨rfl, A2, cap2, hc3, hc4, hp3, hown3, ht3⟩
  obtain ⟨p0, p1, p2⟩ := At.z3 hp3.at0
  have hr3 : Blk w3 (w.heap.size + 1) 24 [.int .i64 0, .slice none 0 0, .int .i64 0] :=
    (ht3.block _ HR2.out.lt (by omega) (HO2.out.ne_ HR2.out (by decide))).trans HR2.out
  have hb3 : Below w.heap.size w w3 := HB2.out.trans (ht3.below (Nat.le_refl _) (fun k hk => by have := (HO2.out.lt k hk).1; simp only [hsz] at this; omega) HB2.out.size)
  obtain ⟨A3, cap3, hA3, _, _, hat3, _⟩ := hown3.slice (cols_fit _).len (by simp : (tcols.map Col.cells).length = tcols.length)
  obtain ⟨rfl, rfl⟩ : A2 = A3 ∧ cap2 = cap3 := by simpa using hA3
  have HP3 := hide hp3
  have HR3 := hide hr3
  have HO3 := hide hown3
  have HB3 := hide hb3
  have HM := hide (may_any ⟨id + 1, tcols, tnx⟩ A2 cap2 w3 hc3 (by simpa [maxLen] using hc4) hlent hat3 HN.out)
  clear hp3 hr3 hown3 hb3 ht3 hat3 hA3
  have s2 : w.heap.size < w3.heap.size := HP3.out.lt
  have s3 : w.heap.size + 1 < w3.heap.size := HR3.out.lt
  unfold Sch.val at HM
  cases hmay : mayB ⟨id + 1, tcols, tnx⟩ with
  | true =>
    have HMY := hide hmay; clear hmay
    go_wp2_with (refine HM.out.mono ?_; rintro e w4 ⟨rfl, hb4⟩; rw [HMY.out]; obtain ⟨q0, q1, q2⟩ := At.z3 (HP3.out.below hb4 (by omega)).at0; obtain ⟨r0, r1, r2⟩ := At.z3 (HR3.out.below hb4 (by omega)).at0; have g0 := (HR3.out.below hb4 (by omega)).free; have s5 := hb4.size; have H4 := hide hb4; clear hb4)
    have W0 := hide (((HR3.out.below H4.out (by omega)).set_ 0 (.int .i64 (id + 1))).set_ 1 (.slice A2 tcols.length cap2) |>.set_ 2 (.int .i64 tnx))
    obtain ⟨w5, hw5⟩ : ∃ w5, w5 = ((w4.setCell ⟨w.heap.size + 1, 0, none⟩ (.int .i64 (id + 1))).setCell ⟨w.heap.size + 1, 1, none⟩ (.slice A2 tcols.length cap2)).setCell ⟨w.heap.size + 1, 2, none⟩ (.int .i64 tnx) := ⟨_, rfl⟩
    have hr4 := HR3.out.below H4.out (B := w3.heap.size) (by omega)
    have ho5 : Own w5 w.heap.size 49 3 (.slice A2 tcols.length cap2) (tcols.map Col.cells) := by
      rw [hw5]
      exact ((((HO3.out.more (by omega)).keep H4.out (Nat.le_refl _)).set_other hr4 (by decide) 0 _).set_other (hr4.set_ 0 _) (by decide) 1 _).set_other ((hr4.set_ 0 _).set_ 1 _) (by decide) 2 _
    have hb5 : Below w.heap.size w w5 := by
      rw [hw5]
      exact (((HB3.out.trans (H4.out.mono (by omega))).setCell (by simp) _).setCell (by simp) _).setCell (by simp) _
    rw [← hw5] at W0 ⊢
    clear hw5 q0 q1 q2 r0 r1 r2 g0
    obtain ⟨t0, t1, t2⟩ := At.z3 W0.out.at0
    refine bodyPost_ret (v := .tuple #[.agg #[.int .i64 (id + 1), .slice A2 tcols.length cap2, .int .i64 tnx], .int .i64 0]) (by simp [results, Tryd.results63, go_sem, t0, t1, t2]) rfl ?_
    rw [nextR, if_pos HMY.out]
    exact ⟨A2, cap2, rfl, hc3, hc4, ho5, hb5⟩
  | false =>
    have HMY := hide hmay; clear hmay
    go_wp2_with (refine HM.out.mono ?_; rintro e w4 ⟨rfl, hb4⟩; rw [HMY.out]; obtain ⟨q0, q1, q2⟩ := At.z3 (HP3.out.below hb4 (by omega)).at0; obtain ⟨r0, r1, r2⟩ := At.z3 (HR3.out.below hb4 (by omega)).at0; have g0 := (HR3.out.below hb4 (by omega)).free; have s5 := hb4.size; have H4 := hide hb4; clear hb4)
    have W0 := hide (((HR3.out.below H4.out (by omega)).set_ 0 (.int .i64 0)).set_ 1 (.slice none 0 0) |>.set_ 2 (.int .i64 0))
    obtain ⟨w5, hw5⟩ : ∃ w5, w5 = ((w4.setCell ⟨w.heap.size + 1, 0, none⟩ (.int .i64 0)).setCell ⟨w.heap.size + 1, 1, none⟩ (.slice none 0 0)).setCell ⟨w.heap.size + 1, 2, none⟩ (.int .i64 0) := ⟨_, rfl⟩
    have hb5 : Below w.heap.size w w5 := by
      rw [hw5]
      exact (((HB3.out.trans (H4.out.mono (by omega))).setCell (by simp) _).setCell (by simp) _).setCell (by simp) _
    rw [← hw5] at W0 ⊢
    clear hw5 q0 q1 q2 r0 r1 r2 g0
    obtain ⟨t0, t1, t2⟩ := At.z3 W0.out.at0
    refine bodyPost_ret (v := .tuple #[.agg #[.int .i64 0, .slice none 0 0, .int .i64 0], .int .i64 1200]) (by simp [results, Tryd.results63, go_sem, t0, t1, t2]) rfl ?_
    rw [nextR, if_neg (by rw [HMY.out]; simp)]
    exact SchRes.err hb5
end Go.Proofs.YtfojdjmeefglcaaDoor
