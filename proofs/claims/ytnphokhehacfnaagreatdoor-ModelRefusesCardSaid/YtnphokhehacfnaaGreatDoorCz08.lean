/-
  Texts put together: Nm.
-/
import Derived.Deep.RegionHeld3
import Derived.BigRegion
import Derived.Deep.DeepCutAuto
import Derived.Test.YtnphokhehacfnaaGreatDoorCz01
import Derived.Test.YtnphokhehacfnaaGreatDoorCz04
import Derived.Test.YtnphokhehacfnaaGreatDoorCz07
namespace Go.Proofs.YtnphokhehacfnaaGreatDoor
open Go.RowKit

theorem clone_any (A : Option Addr) (cap : Nat) (cols : List Col) (w : World) (hat : SlAt w w.heap.size 3 A (cols.map Col.cells)) (hlen : cols.length ≤ 4398046511103) :
    Calls Tryz.prog 71 #[.slice A cols.length cap] w fun e w' => ∃ A' cap', e = .returned (.slice A' cols.length cap') ∧ cols.length ≤ cap' ∧ cap' ≤ maxLen ∧ Own w' w.heap.size 90 3 (.slice A' cols.length cap') (cols.map Col.cells) ∧ Below w.heap.size w w' := by
  cases A with
  | none =>
    have h0 : cols = [] := by
      cases cols with
      | nil => rfl
      | cons c r => obtain ⟨_, _, h, _⟩ := hat (by simp); cases h
    subst h0
    have hq := fun w => Lib.run_eql_slice_nil (P := Tryz.prog) w 22 90 none 0 cap 0 0 Tryz.underlying22
    go_enter Tryz.func71, Tryz.ntmps71
    go_wp2
    go_ret
    exact ⟨_, _, rfl, Nat.le_refl _, by simp [maxLen], Own.nil_ _ _ _ _, Below.refl _ _⟩
  | some ad =>
    have hq := fun w => Lib.run_eql_slice_nil (P := Tryz.prog) w 22 90 (some ad) cols.length cap 0 0 Tryz.underlying22
    go_enter Tryz.func71, Tryz.ntmps71
    go_wp2_with (at_builtin; refine wpList_append_sl rfl (.tmp 5) (.tmp 6) 22 rfl eiCol (base := w.heap.size) (xs := []) rfl ?own Fit.nil_ (ys := cols.map Col.cells) rfl (by simp) (hat.al _) (cols_fit _) (by simp; omega) (by simp) (N := cols.length) (by simp) ?_; rotate_left; intro A' cap' w' hc1 hc2 hown _ hbel)
    case own => exact ⟨by simp, .inr ⟨w.heap.size, 0, #[], rfl, Nat.le_refl _, heap_alloc_new w _, by simp, by simp, by simp, by simp⟩⟩
    go_ret
    exact ⟨_, _, rfl, hc1, hc2, hown, (below_a1 w _).trans hbel⟩

end Go.Proofs.YtnphokhehacfnaaGreatDoor
namespace Go.Proofs.YtnphokhehacfnaaGreatDoor
open Go.RowKit

set_option maxRecDepth 10000 in
set_option maxHeartbeats 1000000 in
theorem delete_any (g cap k n : Nat) (cur : List Value) (cols : List Col) (w : World) (hg : Blk w g 90 cur) (hm : cols.length = n) (hk : k < n) (hcap : n ≤ cap) (hcm : cap ≤ 9223372036854775807)
    (hcur : cur.length = cap * 3) (htake : cur.take (n * 3) = (cols.map Col.cells).flatten) :
    Calls Tryz.prog 170 #[.slice (some ⟨g, 0, none⟩) n cap, .int .i64 k, .int .i64 (k + 1)] w fun e w' =>
      e = .returned (.slice (some ⟨g, 0, none⟩) (n - 1) cap) ∧ (∃ cur', Blk w' g 90 cur' ∧ cur'.length = cap * 3 ∧ cur'.take ((n - 1) * 3) = ((cols.eraseIdx k).map Col.cells).flatten) ∧ w.grownBy w' (some g) := by
  have HMM := hide hm
  obtain ⟨A, hA, hr⟩ : ∃ A : Option Addr, (if cap = k + 1 then some (⟨g, 0, none⟩ : Addr) else some ⟨g, (k + 1) * 3, none⟩) = A ∧ Hid (SlAt w.drew w.drew.heap.size 3 A ((cols.drop (k + 1)).map Col.cells)) := by
    refine ⟨_, rfl, fun hl => ?_⟩
    have hl' : k + 1 < cols.length := by simp at hl; omega
    rw [if_neg (by omega)]
    refine ⟨g, (k + 1) * 3, rfl, hg.lt, fun i cs hi => ?_⟩
    have h1 := At.of_flatten (off := 0) (cols_fit cols).len (At.of_take hg.at0 htake) (k + 1 + i) cs (by simpa using hi)
    rw [Nat.zero_add, Nat.add_mul] at h1
    exact h1
  have hdl : n - (k + 1) = ((cols.drop (k + 1)).map Col.cells).length := by simp [hm]
  have HR : Hid (k + ((cols.drop (k + 1)).map Col.cells).length ≤ cap) := by show _ ≤ _; rw [← hdl]; omega
  have HM := hide hdl; clear hdl
  have HT := hide htake; clear htake
  have HCU := hide hcur; clear hcur hm
  have hwr : IntKind.i64.wrap ((k : Int) + 1) = (k : Int) + 1 := by rw [IntKind.wrap_i64]; omega
  have hp0 : (0 : Int) ≤ (k : Int) + 1 := by omega
  have hp1 : (k : Int) + 1 ≤ (n : Int) := by omega
  have hp2 : ((k : Int) + 1).toNat = k + 1 := by omega
  have hp3 : k ≤ cap := by omega
  go_enter Tryz.func170, Tryz.ntmps170
  go_wp2
  go_region_law (refine step_append_row rfl (.tmp 22) (.tmp 25) 22 rfl eiCol (g := g) (n := k) (cap := cap) (cur := cur) ?hs1 hg.drew (A := A) (c := cap - (k + 1)) (ys := (cols.drop (k + 1)).map Col.cells) (m := n - (k + 1)) ?hs2 HM.out hr.out (cols_fit _) HR.out HCU.out ?_; (case hs1 => simp [Act.eval, Act.put]); (case hs2 => simp [Act.eval, Act.put]); intro w1 hg1 hgr1)
  clear hwr hp0 hp1 hp2 hA
  have hlen1 : (cur.take (k * 3) ++ ((cols.drop (k + 1)).map Col.cells).flatten ++ cur.drop (k * 3 + ((cols.drop (k + 1)).map Col.cells).flatten.length)).length = cap * 3 := by
    have h1 : ((cols.drop (k + 1)).map Col.cells).flatten.length = (n - 1 - k) * 3 := by rw [flatten_length (cols_fit _).len, ← HM.out]; congr 1; omega
    simp only [List.length_append, List.length_take, List.length_drop, h1, HCU.out]
    omega
  obtain ⟨w2, hrun, hg2, hgr2⟩ := run_clear_row (P := Tryz.prog) (t := 22) (e := 90) (ty := 0) (z := .agg #[.int .i64 0, .string .empty, .int .i64 0]) (size := 3) Tryz.underlying22 (fun _ => by kernel_rfl) rfl (by
    intro u hu
    simp [Value.cells] at hu
    rcases hu with rfl | rfl | rfl <;> rfl) (g := g) (o := (n - 1) * 3) (c := cap - (n - 1)) hg1 (by rw [hlen1]; omega)
  have hsum : k + (n - (k + 1)) = n - 1 := by omega
  have hone : n - (n - 1) = 1 := by omega
  have hne : ¬ cap = n - 1 := by omega
  go_wp2_with fail
  go_ret
  have hF : ((cols.drop (k + 1)).map Col.cells).flatten.length = (n - 1 - k) * 3 := by rw [flatten_length (cols_fit _).len, ← HM.out]; congr 1; omega
  have hk3 : (cur.take (k * 3)).length = k * 3 := by rw [List.length_take, HCU.out]; omega
  refine ⟨rfl, ⟨_, hg2, ?_, ?_⟩, ?_⟩
  · simp only [List.length_append, List.length_take, List.length_drop, hF, HCU.out, Value.cells]
    simp
    omega
  · have e1 : ((n - 1) * 3) = (cur.take (k * 3)).length + ((cols.drop (k + 1)).map Col.cells).flatten.length := by rw [hk3, hF]; omega
    rw [List.append_assoc, List.take_append_of_le_length (by rw [List.length_take, hlen1]; omega), List.take_take, Nat.min_self, take_app3 _ _ _ _ e1]
    have e3 : cur.take (k * 3) = ((cols.map Col.cells).take k).flatten := by
      rw [← flatten_take (cols_fit cols).len, ← HT.out, List.take_take]
      congr 1
      omega
    rw [e3, List.eraseIdx_eq_take_drop_succ, List.map_append, List.flatten_append, List.map_take]
  · exact World.grownBy.trans ⟨hgr1.os, hgr1.tape, hgr1.output, hgr1.size, hgr1.block⟩ hgr2
end Go.Proofs.YtnphokhehacfnaaGreatDoor
namespace Go.Proofs.YtnphokhehacfnaaGreatDoor
open Go.RowKit

set_option maxHeartbeats 1000000 in
theorem drop1_any (p b1 base k n cap : Nat) (A : Option Addr) (id next : Int) (cols : List Col) (w : World) (hp : Blk w p 24 [.int .i64 id, .slice A n cap, .int .i64 next])
    (h1 : w.cell? ⟨b1, 0, none⟩ = some (.int .i64 k)) (hown : Own w base 90 3 (.slice A n cap) (cols.map Col.cells)) (hn : cols.length = n) (hk : k < n) :
    Calls Tryz.prog 169 #[.pointer (some ⟨p, 0, none⟩), .pointer (some ⟨b1, 0, none⟩)] w fun e w' => e = .returned (.tuple #[]) ∧
      Blk w' p 24 [.int .i64 id, .slice A (n - 1) cap, .int .i64 next] ∧ Own w' base 90 3 (.slice A (n - 1) cap) ((cols.eraseIdx k).map Col.cells) ∧ Turned w w' p (.slice A n cap) := by
  have hne := hown.ne_ hp (by decide)
  obtain ⟨g, cur, rfl, _, hgb, hg, hnc, hcm, hcs, htake⟩ := hown.blk (by simp; omega)
  obtain ⟨p0, p1, p2⟩ := At.z3 hp.at0
  have f1 := hp.free 1
  have l0 := hp.lt
  simp only [maxLen] at hcm
  have hwr : IntKind.i64.wrap ((k : Int) + 1) = (k : Int) + 1 := by rw [IntKind.wrap_i64]; omega
  have HD : Hid (Calls Tryz.prog 170 #[.slice (some ⟨g, 0, none⟩) n cap, .int .i64 k, .int .i64 (k + 1)] w.drew fun e w' =>
      e = .returned (.slice (some ⟨g, 0, none⟩) (n - 1) cap) ∧ (∃ cur', Blk w' g 90 cur' ∧ cur'.length = cap * 3 ∧ cur'.take ((n - 1) * 3) = ((cols.eraseIdx k).map Col.cells).flatten) ∧ w.drew.grownBy w' (some g)) :=
    delete_any g cap k n cur cols w.drew hg.drew hn hk hnc hcm hcs htake
  have HG := hide hne
  have HP := hide hp
  clear hp hg hne htake hcs hown
  go_enter Tryz.func169, Tryz.ntmps169
  go_wp2
  go_region_law (first | (go_simp; go_at_call 170; refine HD.out.mono ?_; rintro e w1 ⟨rfl, hcur, hgr⟩; have hp1 := HP.out.drew.grown hgr (by simpa [Value.ownBlock] using HG.out); obtain ⟨c0, c1, c2⟩ := At.z3 hp1.at0; have f1' := hp1.free 1; have H1 := hide hp1; have H2 := hide hgr; have H3 := hide hcur; clear hp1 hgr hcur))
  all_goals
    have HB2 := hide (H1.out.set_ 1 (.slice (some ⟨g, 0, none⟩) (n - 1) cap))
    clear h1 p0 p1 p2 f1 c0 c1 c2 f1' hwr
    go_wp2
    go_end0
    obtain ⟨cur', k1, k2, k3⟩ := H3.out
    refine ⟨rfl, ?_, ?_, ?_⟩
    · exact HB2.out
    · exact (Own.of_blk k1 hgb (by simp [List.length_eraseIdx, hn, hk]) (cols_fit _).len (by omega) (by simp only [maxLen]; exact hcm) k2 k3).set_other H1.out (by decide) 1 _
    · exact (Turned.of_drew (Turned.of_grown (by simpa [Value.ownBlock] using H2.out))).set_ 1 _
end Go.Proofs.YtnphokhehacfnaaGreatDoor
namespace Go.Proofs.YtnphokhehacfnaaGreatDoor
open Go.RowKit

set_option maxHeartbeats 1000000 in
theorem add1_any (p b1 b2 base : Nat) (id next kind : Int) (nm : ByteArray) (v : Value) (cols : List Col) (w : World) (hp : Blk w p 24 [.int .i64 id, v, .int .i64 next])
    (h1 : w.cell? ⟨b1, 0, none⟩ = some (.string nm)) (h2 : w.cell? ⟨b2, 0, none⟩ = some (.int .i64 kind)) (hown : Own w base 90 3 v (cols.map Col.cells)) (hlen : cols.length ≤ 4398046511103) (hbase : base ≤ w.heap.size) (l0 : p < base) (l1 : b1 < base) (l2 : b2 < base) :
    Calls Tryz.prog 142 #[.pointer (some ⟨p, 0, none⟩), .pointer (some ⟨b1, 0, none⟩), .pointer (some ⟨b2, 0, none⟩)] w fun e w' => e = .returned (.tuple #[]) ∧
      ∃ A' cap', cols.length + 1 ≤ cap' ∧ cap' ≤ maxLen ∧ Blk w' p 24 [.int .i64 id, .slice A' (cols.length + 1) cap', .int .i64 (wrap64 (next + 1))] ∧ Own w' base 90 3 (.slice A' (cols.length + 1) cap') ((cols ++ [(⟨next, nm, kind⟩ : Col)]).map Col.cells) ∧ Turned w w' p v := by
  obtain ⟨p0, p1, p2⟩ := At.z3 hp.at0
  have f1 := hp.free 1
  have f2 := hp.free 2
  have s0 : p < w.heap.size := by omega
  have s1 : b1 < w.heap.size := by omega
  have s2 : b2 < w.heap.size := by omega
  obtain ⟨o, ho⟩ : ∃ o : Obj, o = .cells #[.int .i64 next, .string nm, .int .i64 kind] 90 := ⟨_, rfl⟩
  have HO : Hid (Own (w.alloc o).drew base 90 3 v (cols.map Col.cells)) := (hown.alloc o).drew
  have HS : Hid (SlAt (w.alloc o).drew (w.alloc o).drew.heap.size 3 (some ⟨w.heap.size, 0, none⟩) [[.int .i64 next, .string nm, .int .i64 kind]]) := by
    rw [ho]; exact SlAt.one w.drew 3 [.int .i64 next, .string nm, .int .i64 kind] 90
  have HF : Hid (Fit 3 [[.int .i64 next, .string nm, .int .i64 kind]]) := cols_fit [⟨next, nm, kind⟩]
  have HP : Hid (Blk (w.alloc o).drew p 24 [.int .i64 id, v, .int .i64 next]) := (hp.alloc o).drew
  have HL : Hid (((cols.map Col.cells).length + [[Value.int .i64 next, .string nm, .int .i64 kind]].length) * 32 ≤ 140737488355328) := by
    show _ ≤ _; simp; omega
  have HB : Hid (base ≤ (w.alloc o).drew.heap.size) := by show _ ≤ _; simp; omega
  have HN : Hid ((cols.map Col.cells).length + [[Value.int .i64 next, .string nm, .int .i64 kind]].length = cols.length + 1) := by show _ = _; simp
  subst ho
  go_enter Tryz.func142, Tryz.ntmps142
  go_wp2
  go_region_law (refine step_append_sl rfl (.tmp 8) (.tmp 16) 22 rfl eiCol (v := v) ?hs1 HO.out (cols_fit _) (A := some ⟨w.heap.size, 0, none⟩) (c := 1) (n := 1) ?hs2 rfl HS.out HF.out HL.out HB.out (N := cols.length + 1) HN.out ?_; (case hs1 => simp [Act.eval]); (case hs2 => simp [Act.eval]); intro A1 cap1 w1 hc1 hc2 hown1 hgr1 hbel1; have hp1 := HP.out.grown hgr1 (HO.out.ne_ HP.out (by decide)); obtain ⟨c0, c1, c2⟩ := At.z3 hp1.at0; have f1' := hp1.free 1; have H1 := hide hp1; have H2 := hide hgr1; have H3 := hide hown1; clear hp1 hgr1 hbel1 hown1)
  all_goals
    have HB2 := hide (H1.out.set_ 1 (.slice A1 (cols.length + 1) cap1))
    have q0 : (w1.setCell ⟨p, 1, none⟩ (.slice A1 (cols.length + 1) cap1)).cell? ⟨p, 2, none⟩ = some (.int .i64 next) := (At.z3 HB2.out.at0).2.2
    have q1 := HB2.out.free 2
    clear h1 h2 p0 p1 p2 f1 f2 c0 c1 c2 f1'
    go_wp2
    go_end0
    refine ⟨rfl, A1, cap1, hc1, hc2, ?_, ?_, ?_⟩
    · exact HB2.out.set_ 2 _
    · rw [List.map_append]
      exact (H3.out.set_other H1.out (by decide) 1 _).set_other HB2.out (by decide) 2 _
    · exact Turned.of_drew (Turned.of_alloc (((Turned.of_grown H2.out).set_ 1 _).set_ 2 _))
end Go.Proofs.YtnphokhehacfnaaGreatDoor
namespace Go.Proofs.YtnphokhehacfnaaGreatDoor
open Go.RowKit

set_option maxHeartbeats 2000000 in
theorem next_any (f : FuncId) (caps : Array Value) (s t : Sch) (A : Option Addr) (cap : Nat) (w : World)
    (hlen : s.cols.length ≤ 4398046511103) (hlent : t.cols.length ≤ 4398046511103) (hat : SlAt w w.heap.size 3 A (s.cols.map Col.cells)) (hid : -9223372036854775808 ≤ s.id ∧ s.id < 9223372036854775807) (hti : t.id = s.id + 1)
    (hnm : ∀ c ∈ t.cols, c.name.size ≤ 9223372036854775807)
    (hcall : ∀ args w, (callFunc f args).run Tryz.prog w = .ok (.enter f args) w)
    (hf : ∀ (w1 : World) (p base cap1 : Nat) (A1 : Option Addr), Below w.heap.size w w1 → w.heap.size ≤ p → p < base → base ≤ w1.heap.size → Blk w1 p 24 [.int .i64 t.id, .slice A1 s.cols.length cap1, .int .i64 s.next] →
      Own w1 base 90 3 (.slice A1 s.cols.length cap1) (s.cols.map Col.cells) →
      Calls Tryz.prog f (#[.pointer (some ⟨p, 0, none⟩)] ++ caps) w1 fun e w2 => e = .returned (.tuple #[]) ∧ ∃ A2 cap2, t.cols.length ≤ cap2 ∧ cap2 ≤ maxLen ∧ Blk w2 p 24 [.int .i64 t.id, .slice A2 t.cols.length cap2, .int .i64 t.next] ∧
        Own w2 base 90 3 (.slice A2 t.cols.length cap2) (t.cols.map Col.cells) ∧ Turned w1 w2 p (.slice A1 s.cols.length cap1)) :
    Calls Tryz.prog 141 #[s.val A cap, .func (.func f) #[] caps] w (SchRes w (nextR t)) := by
  obtain ⟨id, cols, nx⟩ := s
  obtain ⟨tid, tcols, tnx⟩ := t
  simp only at hti
  subst hti
  simp only [Sch.val] at *
  have HF := Lib.hid hf; clear hf
  have HN := Lib.hid hnm; clear hnm
  obtain ⟨i1, i2⟩ := hid
  go_enter Tryz.func141, Tryz.ntmps141
  go_wp2_with fail
  refine (clone_any A cap cols _ ((hat.al _).al _) hlen).mono ?_
  rintro e w1 ⟨A1, cap1, rfl, hc1, hc2, hown1, hb1⟩
  have HP := hide ((Blk.new w [.int .i64 id, .slice A cols.length cap, .int .i64 nx] 24).alloc (.cells #[.int .i64 0, .slice none 0 0, .int .i64 0] 24))
  have z1 := hb1.size
  simp only [hsz] at z1
  have HP1 := hide (HP.out.below hb1 (by simp only [hsz]; omega))
  obtain ⟨p0, p1, p2⟩ := At.z3 HP1.out.at0
  have f0 := HP1.out.free 0
  have f1 := HP1.out.free 1
  have HO := hide hown1; clear hown1
  have HB := hide hb1; clear hb1
  have s1 : w.heap.size < w1.heap.size := by omega
  go_wp2_with fail
  have HP2 := hide ((HP1.out.set_ 1 (.slice A1 cols.length cap1)).set_ 0 (.int .i64 (id + 1)))
  have HO2 := hide ((HO.out.set_other HP1.out (by decide) 1 (.slice A1 cols.length cap1)).set_other (HP1.out.set_ 1 (.slice A1 cols.length cap1)) (by decide) 0 (.int .i64 (id + 1)))
  have HR := hide ((Blk.new (w.alloc (.cells #[.int .i64 id, .slice A cols.length cap, .int .i64 nx] 24)) [.int .i64 0, .slice none 0 0, .int .i64 0] 24).below HB.out (by simp only [hsz]; omega))
  simp only [hsz] at HR
  have HR2 := hide ((HR.out.far (p := ⟨w.heap.size, 1, none⟩) (by simp) (.slice A1 cols.length cap1)).far (p := ⟨w.heap.size, 0, none⟩) (by simp) (.int .i64 (id + 1)))
  have HB2 : Hid (Below w.heap.size w ((w1.setCell ⟨w.heap.size, 1, none⟩ (.slice A1 cols.length cap1)).setCell ⟨w.heap.size, 0, none⟩ (.int .i64 (id + 1)))) :=
    ((below_from1 (below_from1 HB.out)).setCell (Nat.le_refl _) _).setCell (Nat.le_refl _) _
  clear p0 p1 p2 f0 f1
  obtain ⟨w2, hw2⟩ : ∃ w2, w2 = (w1.setCell ⟨w.heap.size, 1, none⟩ (.slice A1 cols.length cap1)).setCell ⟨w.heap.size, 0, none⟩ (.int .i64 (id + 1)) := ⟨_, rfl⟩
  have hz2 : w2.heap.size = w1.heap.size := by rw [hw2]; simp [World.setCell]
  have HZ := hide hz2; clear hz2
  rw [← hw2] at HP2 HO2 HR2 HB2 ⊢
  clear hw2
  refine (HF.out w2 w.heap.size (w.heap.size + 2) cap1 A1 HB2.out (Nat.le_refl _) (by omega) (by rw [HZ.out]; omega) HP2.out (HO2.out.more (by simp only [hsz]; omega))).mono ?_
  rintro e w3 ⟨rfl, A2, cap2, hc3, hc4, hp3, hown3, ht3⟩
  obtain ⟨p0, p1, p2⟩ := At.z3 hp3.at0
  have hr3 : Blk w3 (w.heap.size + 1) 24 [.int .i64 0, .slice none 0 0, .int .i64 0] :=
    (ht3.block _ HR2.out.lt (by omega) (HO2.out.ne_ HR2.out (by decide))).trans HR2.out
  have hb3 : Below w.heap.size w w3 := HB2.out.trans (ht3.below (Nat.le_refl _) (fun k hk => by have := (HO2.out.lt k hk).1; simp only [hsz] at this; omega) HB2.out.size)
  obtain ⟨A3, cap3, hA3, _, _, hat3, _⟩ := hown3.slice (cols_fit _).len (by simp : (tcols.map Col.cells).length = tcols.length)
  obtain ⟨rfl, rfl⟩ : A2 = A3 ∧ cap2 = cap3 := by simpa using hA3
  have HP3 := hide hp3
  have HR3 := hide hr3
  have HO3 := hide hown3
  have HB3 := hide hb3
  have HM := hide (may_any ⟨id + 1, tcols, tnx⟩ A2 cap2 w3 hc3 (by simpa [maxLen] using hc4) hlent hat3 HN.out)
  clear hp3 hr3 hown3 hb3 ht3 hat3 hA3
  have s2 : w.heap.size < w3.heap.size := HP3.out.lt
  have s3 : w.heap.size + 1 < w3.heap.size := HR3.out.lt
  unfold Sch.val at HM
  cases hmay : mayB ⟨id + 1, tcols, tnx⟩ with
  | true =>
    have HMY := hide hmay; clear hmay
    go_wp2_with (refine HM.out.mono ?_; rintro e w4 ⟨rfl, hb4⟩; rw [HMY.out]; obtain ⟨q0, q1, q2⟩ := At.z3 (HP3.out.below hb4 (by omega)).at0; obtain ⟨r0, r1, r2⟩ := At.z3 (HR3.out.below hb4 (by omega)).at0; have g0 := (HR3.out.below hb4 (by omega)).free; have s5 := hb4.size; have H4 := hide hb4; clear hb4)
    have W0 := hide (((HR3.out.below H4.out (by omega)).set_ 0 (.int .i64 (id + 1))).set_ 1 (.slice A2 tcols.length cap2) |>.set_ 2 (.int .i64 tnx))
    obtain ⟨w5, hw5⟩ : ∃ w5, w5 = ((w4.setCell ⟨w.heap.size + 1, 0, none⟩ (.int .i64 (id + 1))).setCell ⟨w.heap.size + 1, 1, none⟩ (.slice A2 tcols.length cap2)).setCell ⟨w.heap.size + 1, 2, none⟩ (.int .i64 tnx) := ⟨_, rfl⟩
    have hr4 := HR3.out.below H4.out (B := w3.heap.size) (by omega)
    have ho5 : Own w5 w.heap.size 90 3 (.slice A2 tcols.length cap2) (tcols.map Col.cells) := by
      rw [hw5]
      exact ((((HO3.out.more (by omega)).keep H4.out (Nat.le_refl _)).set_other hr4 (by decide) 0 _).set_other (hr4.set_ 0 _) (by decide) 1 _).set_other ((hr4.set_ 0 _).set_ 1 _) (by decide) 2 _
    have hb5 : Below w.heap.size w w5 := by
      rw [hw5]
      exact (((HB3.out.trans (H4.out.mono (by omega))).setCell (by simp) _).setCell (by simp) _).setCell (by simp) _
    rw [← hw5] at W0 ⊢
    clear hw5 q0 q1 q2 r0 r1 r2 g0
    obtain ⟨t0, t1, t2⟩ := At.z3 W0.out.at0
    refine bodyPost_ret (v := .tuple #[.agg #[.int .i64 (id + 1), .slice A2 tcols.length cap2, .int .i64 tnx], .int .i64 0]) (by simp [results, Tryz.results141, go_sem, t0, t1, t2]) rfl ?_
    rw [nextR, if_pos HMY.out]
    exact ⟨A2, cap2, rfl, hc3, hc4, ho5, hb5⟩
  | false =>
    have HMY := hide hmay; clear hmay
    go_wp2_with (refine HM.out.mono ?_; rintro e w4 ⟨rfl, hb4⟩; rw [HMY.out]; obtain ⟨q0, q1, q2⟩ := At.z3 (HP3.out.below hb4 (by omega)).at0; obtain ⟨r0, r1, r2⟩ := At.z3 (HR3.out.below hb4 (by omega)).at0; have g0 := (HR3.out.below hb4 (by omega)).free; have s5 := hb4.size; have H4 := hide hb4; clear hb4)
    have W0 := hide (((HR3.out.below H4.out (by omega)).set_ 0 (.int .i64 0)).set_ 1 (.slice none 0 0) |>.set_ 2 (.int .i64 0))
    obtain ⟨w5, hw5⟩ : ∃ w5, w5 = ((w4.setCell ⟨w.heap.size + 1, 0, none⟩ (.int .i64 0)).setCell ⟨w.heap.size + 1, 1, none⟩ (.slice none 0 0)).setCell ⟨w.heap.size + 1, 2, none⟩ (.int .i64 0) := ⟨_, rfl⟩
    have hb5 : Below w.heap.size w w5 := by
      rw [hw5]
      exact (((HB3.out.trans (H4.out.mono (by omega))).setCell (by simp) _).setCell (by simp) _).setCell (by simp) _
    rw [← hw5] at W0 ⊢
    clear hw5 q0 q1 q2 r0 r1 r2 g0
    obtain ⟨t0, t1, t2⟩ := At.z3 W0.out.at0
    refine bodyPost_ret (v := .tuple #[.agg #[.int .i64 0, .slice none 0 0, .int .i64 0], .int .i64 1200]) (by simp [results, Tryz.results141, go_sem, t0, t1, t2]) rfl ?_
    rw [nextR, if_neg (by rw [HMY.out]; simp)]
    exact SchRes.err hb5
end Go.Proofs.YtnphokhehacfnaaGreatDoor
namespace Go.Proofs.YtnphokhehacfnaaGreatDoor
open Go.RowKit

theorem addR_may {s : Sch} {nm : ByteArray} {k : Int} (h : mayB s = false) : addR s nm k = (Sch.zero, 1200) := by simp [addR, h]
theorem addR_name {s : Sch} {nm : ByteArray} {k : Int} (h : mayB s = true) (h1 : nameB nm = false) : addR s nm k = (Sch.zero, 1201) := by simp [addR, h, h1]
theorem addR_there {s : Sch} {nm : ByteArray} {k : Int} (h : mayB s = true) (h1 : nameB nm = true) (h2 : 0 ≤ idx (named nm) s.cols) : addR s nm k = (Sch.zero, 1201) := by simp [addR, h, h1, h2]
theorem addR_kind {s : Sch} {nm : ByteArray} {k : Int} (h : mayB s = true) (h1 : nameB nm = true) (h2 : ¬ 0 ≤ idx (named nm) s.cols) (h3 : kindB k = false) : addR s nm k = (Sch.zero, 1200) := by simp [addR, h, h1, h2, h3]
theorem addR_full {s : Sch} {nm : ByteArray} {k : Int} (h : mayB s = true) (h1 : nameB nm = true) (h2 : ¬ 0 ≤ idx (named nm) s.cols) (h3 : kindB k = true) (h4 : 12 ≤ s.cols.length) : addR s nm k = (Sch.zero, 1203) := by simp [addR, h, h1, h2, h3, h4]
theorem addR_next {s : Sch} {nm : ByteArray} {k : Int} (h : mayB s = true) (h1 : nameB nm = true) (h2 : ¬ 0 ≤ idx (named nm) s.cols) (h3 : kindB k = true) (h4 : ¬ 12 ≤ s.cols.length) :
    addR s nm k = nextR ⟨s.id + 1, s.cols ++ [⟨s.next, nm, k⟩], s.next + 1⟩ := by simp [addR, h, h1, h2, h3, h4]

theorem addR_inv {s : Sch} (h : mayB s = true) : s.id + 1 ≤ 2147483648 ∧ 0 ≤ s.id ∧ s.next + 1 ≤ 2147483648 ∧ 1 ≤ s.next ∧ s.cols.length ≤ 12 := by
  obtain ⟨h1, h2, h3, h4, h5, h6⟩ := mayB_head h
  exact ⟨by omega, h1, by omega, h5, h4⟩

set_option maxHeartbeats 4000000 in
theorem add_any (s : Sch) (A : Option Addr) (cap : Nat) (nm : ByteArray) (k : Int) (w : World) (hs : SchIn w s A cap) (hn : nm.size ≤ 9223372036854775807) :
    Calls Tryz.prog 91 #[s.val A cap, .string nm, .int .i64 k] w (SchRes w (addR s nm k)) := by
  have HS0 := hide ((((hs.al (.cells #[.int .i64 s.id, .slice A s.cols.length cap, .int .i64 s.next] 24)).al (.cells #[.string nm] 9)).al (.cells #[.int .i64 k] 3)).al (.cells #[.int .i64 0, .slice none 0 0, .int .i64 0] 24))
  have HM := hide HS0.out.may
  have HF0 := hide (((((Blks.nil_ w).push 24 [.int .i64 s.id, .slice A s.cols.length cap, .int .i64 s.next]).push 9 [.string nm]).push 3 [.int .i64 k]).push 24 [.int .i64 0, .slice none 0 0, .int .i64 0])
  simp only [hsz] at HF0
  unfold Sch.val at HM ⊢
  go_enter Tryz.func91, Tryz.ntmps91
  go_wp2_with fail
  refine HM.out.mono ?_
  rintro e w1 ⟨rfl, hb1⟩
  have z1 := hb1.size
  simp only [hsz] at z1
  have HB1 := hide (below_from1 (below_from1 (below_from1 (below_from1 hb1))))
  have HS1 := hide (HS0.out.below hb1)
  have HF1 := hide (HF0.out.after hb1)
  clear hb1 HM HS0 HF0
  obtain ⟨b3, b2, b1, b0, _⟩ := HF1.out
  obtain ⟨p3_0, p3_1, p3_2⟩ := At.z3 b3.at0
  have p2_0 := At.z1 b2.at0
  have p1_0 := At.z1 b1.at0
  obtain ⟨p0_0, p0_1, p0_2⟩ := At.z3 b0.at0
  have f3 := b3.free
  have l3 := b3.lt
  have HR1 := hide b3
  clear b0 b1 b2 b3
  cases hm : mayB s with
  | false =>
    have Hm := hide hm; clear hm
    go_wp2_with fail
    obtain ⟨t0, t1, t2⟩ := At.z3 (store3 HR1.out (.int .i64 0) (.slice none 0 0) (.int .i64 0))
    refine bodyPost_ret (v := .tuple #[.agg #[.int .i64 0, .slice none 0 0, .int .i64 0], .int .i64 1200]) (by simp [results, Tryz.results91, go_sem, t0, t1, t2]) rfl ?_
    rw [addR_may Hm.out]
    exact SchRes.err (below3 HB1.out (by omega) _ _ _)
  | true =>
    have Hm := hide hm; clear hm
    obtain ⟨i1, i2, i3, i4, i5⟩ := addR_inv Hm.out
    go_wp2_with fail
    refine (name_any nm w1 hn).mono ?_
    rintro e w2 ⟨rfl, hb2⟩
    have z2 := hb2.size
    have HB2 := hide (HB1.out.trans (hb2.mono (by omega)))
    have HS2 := hide (HS1.out.below hb2)
    have HF2 := hide (HF1.out.after hb2)
    clear p0_0 p0_1 p0_2 p1_0 p2_0 p3_0 p3_1 p3_2 f3 hb2
    obtain ⟨b3, b2, b1, b0, _⟩ := HF2.out
    obtain ⟨p3_0, p3_1, p3_2⟩ := At.z3 b3.at0
    have p2_0 := At.z1 b2.at0
    have p1_0 := At.z1 b1.at0
    obtain ⟨p0_0, p0_1, p0_2⟩ := At.z3 b0.at0
    have f3 := b3.free
    have l3 := b3.lt
    have HR2 := hide b3
    clear b0 b1 b2 b3
    cases hnm : nameB nm with
    | false =>
      have Hn := hide hnm; clear hnm
      go_wp2_with fail
      obtain ⟨t0, t1, t2⟩ := At.z3 (store3 HR2.out (.int .i64 0) (.slice none 0 0) (.int .i64 0))
      refine bodyPost_ret (v := .tuple #[.agg #[.int .i64 0, .slice none 0 0, .int .i64 0], .int .i64 1201]) (by simp [results, Tryz.results91, go_sem, t0, t1, t2]) rfl ?_
      rw [addR_name Hm.out Hn.out]
      exact SchRes.err (below3 HB2.out (by omega) _ _ _)
    | true =>
      have Hn := hide hnm; clear hnm
      have HFi := hide (HS2.out.find nm)
      unfold Sch.val at HFi
      go_wp2_with fail
      refine HFi.out.mono ?_
      rintro e w3 ⟨rfl, hb3⟩
      have z3 := hb3.size
      have HB3 := hide (HB2.out.trans (hb3.mono (by omega)))
      have HS3 := hide (HS2.out.below hb3)
      have HF3 := hide (HF2.out.after hb3)
      clear p0_0 p0_1 p0_2 p1_0 p2_0 p3_0 p3_1 p3_2 f3 hb3
      obtain ⟨b3, b2, b1, b0, _⟩ := HF3.out
      obtain ⟨p3_0, p3_1, p3_2⟩ := At.z3 b3.at0
      have p2_0 := At.z1 b2.at0
      have p1_0 := At.z1 b1.at0
      obtain ⟨p0_0, p0_1, p0_2⟩ := At.z3 b0.at0
      have f3 := b3.free
      have l3 := b3.lt
      have HR3 := hide b3
      clear b0 b1 b2 b3
      by_cases hi : 0 ≤ idx (named nm) s.cols
      · go_wp2_with fail
        obtain ⟨t0, t1, t2⟩ := At.z3 (store3 HR3.out (.int .i64 0) (.slice none 0 0) (.int .i64 0))
        refine bodyPost_ret (v := .tuple #[.agg #[.int .i64 0, .slice none 0 0, .int .i64 0], .int .i64 1201]) (by simp [results, Tryz.results91, go_sem, t0, t1, t2]) rfl ?_
        rw [addR_there Hm.out Hn.out hi]
        exact SchRes.err (below3 HB3.out (by omega) _ _ _)
      · go_wp2_with fail
        refine (vecKind_any k w3).mono ?_
        rintro e w4 ⟨rfl, rfl⟩
        cases hk : kindB k with
        | false =>
          have Hk := hide hk; clear hk
          go_wp2_with fail
          obtain ⟨t0, t1, t2⟩ := At.z3 (store3 HR3.out (.int .i64 0) (.slice none 0 0) (.int .i64 0))
          refine bodyPost_ret (v := .tuple #[.agg #[.int .i64 0, .slice none 0 0, .int .i64 0], .int .i64 1200]) (by simp [results, Tryz.results91, go_sem, t0, t1, t2]) rfl ?_
          rw [addR_kind Hm.out Hn.out (by omega) Hk.out]
          exact SchRes.err (below3 HB3.out (by omega) _ _ _)
        | true =>
          have Hk := hide hk; clear hk
          by_cases hl : 12 ≤ s.cols.length
          · go_wp2_with fail
            obtain ⟨t0, t1, t2⟩ := At.z3 (store3 HR3.out (.int .i64 0) (.slice none 0 0) (.int .i64 0))
            refine bodyPost_ret (v := .tuple #[.agg #[.int .i64 0, .slice none 0 0, .int .i64 0], .int .i64 1203]) (by simp [results, Tryz.results91, go_sem, t0, t1, t2]) rfl ?_
            rw [addR_full Hm.out Hn.out (by omega) Hk.out hl]
            exact SchRes.err (below3 HB3.out (by omega) _ _ _)
          · have HX : Hid (Calls Tryz.prog 141 #[.agg #[.int .i64 s.id, .slice A s.cols.length cap, .int .i64 s.next], .func (.func 142) #[] #[.pointer (some ⟨w.heap.size + 1, 0, none⟩), .pointer (some ⟨w.heap.size + 1 + 1, 0, none⟩)]] w3 (SchRes w3 (nextR ⟨s.id + 1, s.cols ++ [⟨s.next, nm, k⟩], s.next + 1⟩))) := by
              refine next_any 142 _ s ⟨s.id + 1, s.cols ++ [⟨s.next, nm, k⟩], s.next + 1⟩ A cap w3 (by omega) (by simp; omega) HS3.out.at_ ⟨by omega, by omega⟩ rfl ?_ ?_ ?_
              · intro c hc
                rcases List.mem_append.1 hc with h | h
                · exact hs.names c h
                · obtain rfl : c = ⟨s.next, nm, k⟩ := by simpa using h
                  exact hn
              · intro args w9
                kernel_rfl
              · intro w5 p base cap1 A1 h1 h2 h3 h4 h5 h6
                obtain ⟨b3, b2, b1, b0, _⟩ := HF3.out
                have lb := b2.lt
                refine (add1_any p (w.heap.size + 1) (w.heap.size + 1 + 1) base (s.id + 1) s.next k nm (.slice A1 s.cols.length cap1) s.cols w5 h5 (At.z1 (b1.below h1 (by omega)).at0) (At.z1 (b2.below h1 (by omega)).at0) h6 (by omega) h4 h3 (by omega) (by omega)).mono ?_
                rintro e w6 ⟨he, A2, cap2, g1, g2, g3, g4, g5⟩
                rw [show wrap64 (s.next + 1) = s.next + 1 from IntWalk.wrap64_in _ ⟨by omega, by omega⟩] at g3
                exact ⟨he, A2, cap2, by simpa using g1, g2, by simpa using g3, by simpa using g4, g5⟩
            go_wp2_with fail
            refine HX.out.mono ?_
            rintro e w4 ⟨A4, cap4, rfl, g1, g2, g3, g4⟩
            have HF4 := hide (HF3.out.after g4)
            clear p0_0 p0_1 p0_2 p1_0 p2_0 p3_0 p3_1 p3_2 f3
            obtain ⟨b3, b2, b1, b0, _⟩ := HF4.out
            obtain ⟨p3_0, p3_1, p3_2⟩ := At.z3 b3.at0
            have p2_0 := At.z1 b2.at0
            have p1_0 := At.z1 b1.at0
            obtain ⟨p0_0, p0_1, p0_2⟩ := At.z3 b0.at0
            have f3 := b3.free
            have l3 := b3.lt
            have HR4 := hide b3
            clear b0 b1 b2 b3
            have Hg := hide g4; clear g4
            unfold Sch.val
            go_wp2_with fail
            obtain ⟨t0, t1, t2⟩ := At.z3 (store3 HR4.out (.int .i64 (nextR ⟨s.id + 1, s.cols ++ [⟨s.next, nm, k⟩], s.next + 1⟩).1.id) (.slice A4 (nextR ⟨s.id + 1, s.cols ++ [⟨s.next, nm, k⟩], s.next + 1⟩).1.cols.length cap4) (.int .i64 (nextR ⟨s.id + 1, s.cols ++ [⟨s.next, nm, k⟩], s.next + 1⟩).1.next))
            refine bodyPost_ret (v := .tuple #[(nextR ⟨s.id + 1, s.cols ++ [⟨s.next, nm, k⟩], s.next + 1⟩).1.val A4 cap4, .int .i64 (nextR ⟨s.id + 1, s.cols ++ [⟨s.next, nm, k⟩], s.next + 1⟩).2]) (by simp [results, Tryz.results91, go_sem, t0, t1, t2, Sch.val]) rfl ?_
            rw [addR_next Hm.out Hn.out (by omega) Hk.out hl]
            exact SchRes.store g1 g2 g3 (HB3.out.trans (Hg.out.mono (by omega))) (by omega) HR4.out (by omega)
end Go.Proofs.YtnphokhehacfnaaGreatDoor
namespace Go.Proofs.YtnphokhehacfnaaGreatDoor
open Go.RowKit

theorem dropR_may {s : Sch} {nm : ByteArray} (h : mayB s = false) : dropR s nm = (Sch.zero, 1200) := by simp [dropR, h]
theorem dropR_none {s : Sch} {nm : ByteArray} (h : mayB s = true) (h2 : idx (named nm) s.cols < 0) : dropR s nm = (Sch.zero, 1202) := by simp [dropR, h, h2]
theorem dropR_one {s : Sch} {nm : ByteArray} (h : mayB s = true) (h2 : ¬ idx (named nm) s.cols < 0) (h3 : s.cols.length = 1) : dropR s nm = (Sch.zero, 1203) := by simp [dropR, h, h2, h3]
theorem dropR_next {s : Sch} {nm : ByteArray} (h : mayB s = true) (h2 : ¬ idx (named nm) s.cols < 0) (h3 : ¬ s.cols.length = 1) : dropR s nm = nextR ⟨s.id + 1, s.cols.eraseIdx (s.cols.findIdx (named nm)), s.next⟩ := by simp [dropR, h, h2, h3]

set_option maxHeartbeats 4000000 in
theorem drop_any (s : Sch) (A : Option Addr) (cap : Nat) (nm : ByteArray) (w : World) (hs : SchIn w s A cap) :
    Calls Tryz.prog 144 #[s.val A cap, .string nm] w (SchRes w (dropR s nm)) := by
  have HS0 := hide ((hs.al (.cells #[.int .i64 s.id, .slice A s.cols.length cap, .int .i64 s.next] 24)).al (.cells #[.int .i64 0, .slice none 0 0, .int .i64 0] 24))
  have HM := hide (HS0.out.find nm)
  have HF0 := hide (((Blks.nil_ w).push 24 [.int .i64 s.id, .slice A s.cols.length cap, .int .i64 s.next]).push 24 [.int .i64 0, .slice none 0 0, .int .i64 0])
  simp only [hsz] at HF0
  obtain ⟨x1, x2⟩ := idx_bd (named nm) s.cols
  have x3 := hs.len
  unfold Sch.val at HM ⊢
  go_enter Tryz.func144, Tryz.ntmps144
  go_wp2_with fail
  refine HM.out.mono ?_
  rintro e w1 ⟨rfl, hb1⟩
  have z1 := hb1.size
  simp only [hsz] at z1
  have HB1 := hide (below_from1 (below_from1 hb1))
  have HS1 := hide ((HS0.out.below hb1).al (.cells #[.int .i64 (idx (named nm) s.cols)] 3))
  have HF1 := hide ((HF0.out.after hb1).push 3 [.int .i64 (idx (named nm) s.cols)])
  clear hb1 HM HS0 HF0
  obtain ⟨b2, b1, b0, _⟩ := HF1.out
  have p2_0 := At.z1 b2.at0
  obtain ⟨p1_0, p1_1, p1_2⟩ := At.z3 b1.at0
  obtain ⟨p0_0, p0_1, p0_2⟩ := At.z3 b0.at0
  have f1 := b1.free
  have l1 := b1.lt
  have HR1 := hide b1
  clear b0 b1 b2
  simp only [hsz] at l1
  have HM := hide HS1.out.may
  unfold Sch.val at HM
  go_wp2_with fail
  refine HM.out.mono ?_
  rintro e w2 ⟨rfl, hb2⟩
  have z2 := hb2.size
  simp only [hsz] at z2
  have HB2 := hide ((HB1.out.alloc (by omega) (.cells #[.int .i64 (idx (named nm) s.cols)] 3)).trans (hb2.mono (by simp only [hsz]; omega)))
  have HS2 := hide (HS1.out.below hb2)
  have HF2 := hide (HF1.out.after hb2)
  clear p0_0 p0_1 p0_2 p1_0 p1_1 p1_2 p2_0 f1 hb2
  obtain ⟨b2, b1, b0, _⟩ := HF2.out
  have p2_0 := At.z1 b2.at0
  obtain ⟨p1_0, p1_1, p1_2⟩ := At.z3 b1.at0
  obtain ⟨p0_0, p0_1, p0_2⟩ := At.z3 b0.at0
  have f1 := b1.free
  have l1 := b1.lt
  have HR2 := hide b1
  clear b0 b1 b2
  cases hm : mayB s with
  | false =>
    have Hm := hide hm; clear hm
    go_wp2_with fail
    obtain ⟨t0, t1, t2⟩ := At.z3 (store3 HR2.out (.int .i64 0) (.slice none 0 0) (.int .i64 0))
    refine bodyPost_ret (v := .tuple #[.agg #[.int .i64 0, .slice none 0 0, .int .i64 0], .int .i64 1200]) (by simp [results, Tryz.results144, go_sem, t0, t1, t2]) rfl ?_
    rw [dropR_may Hm.out]
    exact SchRes.err (below3 HB2.out (by omega) _ _ _)
  | true =>
    have Hm := hide hm; clear hm
    obtain ⟨i1, i2, i3, i4, i5⟩ := addR_inv Hm.out
    by_cases hi : idx (named nm) s.cols < 0
    · go_wp2_with fail
      obtain ⟨t0, t1, t2⟩ := At.z3 (store3 HR2.out (.int .i64 0) (.slice none 0 0) (.int .i64 0))
      refine bodyPost_ret (v := .tuple #[.agg #[.int .i64 0, .slice none 0 0, .int .i64 0], .int .i64 1202]) (by simp [results, Tryz.results144, go_sem, t0, t1, t2]) rfl ?_
      rw [dropR_none Hm.out hi]
      exact SchRes.err (below3 HB2.out (by omega) _ _ _)
    · by_cases hl : s.cols.length = 1
      · go_wp2_with fail
        obtain ⟨t0, t1, t2⟩ := At.z3 (store3 HR2.out (.int .i64 0) (.slice none 0 0) (.int .i64 0))
        refine bodyPost_ret (v := .tuple #[.agg #[.int .i64 0, .slice none 0 0, .int .i64 0], .int .i64 1203]) (by simp [results, Tryz.results144, go_sem, t0, t1, t2]) rfl ?_
        rw [dropR_one Hm.out (by omega) hl]
        exact SchRes.err (below3 HB2.out (by omega) _ _ _)
      · have Hl := hide hl
        obtain ⟨y1, y2⟩ := idx_yes (p := named nm) (l := s.cols) (by omega)
        have HY := hide y1; clear y1
        have HX : Hid (Calls Tryz.prog 141 #[.agg #[.int .i64 s.id, .slice A s.cols.length cap, .int .i64 s.next], .func (.func 169) #[] #[.pointer (some ⟨w1.heap.size, 0, none⟩)]] w2 (SchRes w2 (nextR ⟨s.id + 1, s.cols.eraseIdx (s.cols.findIdx (named nm)), s.next⟩))) := by
          refine next_any 169 _ s ⟨s.id + 1, s.cols.eraseIdx (s.cols.findIdx (named nm)), s.next⟩ A cap w2 (by omega) (by simp only [List.length_eraseIdx]; split <;> omega) HS2.out.at_ ⟨by omega, by omega⟩ rfl ?_ ?_ ?_
          · exact fun c hc => hs.names c (List.mem_of_mem_eraseIdx hc)
          · intro args w9
            kernel_rfl
          · intro w5 p base cap1 A1 h1 h2 h3 h4 h5 h6
            obtain ⟨b2, b1, b0, _⟩ := HF2.out
            have lb := b2.lt
            have hcell := At.z1 (b2.below h1 (by omega)).at0
            rw [HY.out] at hcell
            refine (drop1_any p w1.heap.size base (s.cols.findIdx (named nm)) s.cols.length cap1 A1 (s.id + 1) s.next s.cols w5 h5 hcell h6 rfl y2).mono ?_
            rintro e w6 ⟨he, g3, g4, g5⟩
            have hl2 : (s.cols.eraseIdx (s.cols.findIdx (named nm))).length = s.cols.length - 1 := by rw [List.length_eraseIdx, if_pos y2]
            obtain ⟨_, _, _, _, _, _, g1, g2, _⟩ := h6.blk (by simp; omega)
            refine ⟨he, A1, cap1, by rw [hl2]; omega, g2, by rw [hl2]; exact g3, by rw [hl2]; exact g4, g5⟩
        go_wp2_with fail
        refine HX.out.mono ?_
        rintro e w4 ⟨A4, cap4, rfl, g1, g2, g3, g4⟩
        have HF4 := hide (HF2.out.after g4)
        clear p0_0 p0_1 p0_2 p1_0 p1_1 p1_2 p2_0 f1
        obtain ⟨b2, b1, b0, _⟩ := HF4.out
        have p2_0 := At.z1 b2.at0
        obtain ⟨p1_0, p1_1, p1_2⟩ := At.z3 b1.at0
        obtain ⟨p0_0, p0_1, p0_2⟩ := At.z3 b0.at0
        have f1 := b1.free
        have l1 := b1.lt
        have HR4 := hide b1
        clear b0 b1 b2
        have Hg := hide g4; clear g4
        unfold Sch.val
        go_wp2_with fail
        obtain ⟨t0, t1, t2⟩ := At.z3 (store3 HR4.out (.int .i64 (nextR ⟨s.id + 1, s.cols.eraseIdx (s.cols.findIdx (named nm)), s.next⟩).1.id) (.slice A4 (nextR ⟨s.id + 1, s.cols.eraseIdx (s.cols.findIdx (named nm)), s.next⟩).1.cols.length cap4) (.int .i64 (nextR ⟨s.id + 1, s.cols.eraseIdx (s.cols.findIdx (named nm)), s.next⟩).1.next))
        refine bodyPost_ret (v := .tuple #[(nextR ⟨s.id + 1, s.cols.eraseIdx (s.cols.findIdx (named nm)), s.next⟩).1.val A4 cap4, .int .i64 (nextR ⟨s.id + 1, s.cols.eraseIdx (s.cols.findIdx (named nm)), s.next⟩).2]) (by simp [results, Tryz.results144, go_sem, t0, t1, t2, Sch.val]) rfl ?_
        rw [dropR_next Hm.out (by omega) Hl.out]
        exact SchRes.store g1 g2 g3 (HB2.out.trans (Hg.out.mono (by omega))) (by omega) HR4.out (by omega)
end Go.Proofs.YtnphokhehacfnaaGreatDoor
namespace Go.Proofs.YtnphokhehacfnaaGreatDoor
open Go.RowKit

theorem setName_length (cols : List Col) (k : Nat) (tn : ByteArray) : (setName cols k tn).length = cols.length := by simp [setName]
theorem setName_cells (tn : ByteArray) : ∀ (cols : List Col) (k : Nat), k < cols.length → (cols.map Col.cells).flatten.set (k * 3 + 1) (.string tn) = ((setName cols k tn).map Col.cells).flatten
  | [], _, h => by simp at h
  | c :: r, 0, _ => by simp [setName, Col.cells]
  | c :: r, k + 1, h => by
    have ih := setName_cells tn r k (by simpa using h)
    simp only [setName] at ih
    simp only [setName, List.map_cons, List.flatten_cons, List.modify_succ_cons, ← ih]
    rw [show (k + 1) * 3 + 1 = c.cells.length + (k * 3 + 1) by simp [Col.cells]; omega, List.set_append_right _ _ (by omega)]
    simp

set_option maxHeartbeats 1000000 in
theorem rename1_any (p b1 b2 base k n cap : Nat) (A : Option Addr) (id next : Int) (tn : ByteArray) (cols : List Col) (w : World) (hp : Blk w p 24 [.int .i64 id, .slice A n cap, .int .i64 next])
    (h1 : w.cell? ⟨b1, 0, none⟩ = some (.string tn)) (h2 : w.cell? ⟨b2, 0, none⟩ = some (.int .i64 k)) (hown : Own w base 90 3 (.slice A n cap) (cols.map Col.cells)) (hn : cols.length = n) (hk : k < n) :
    Calls Tryz.prog 146 #[.pointer (some ⟨p, 0, none⟩), .pointer (some ⟨b1, 0, none⟩), .pointer (some ⟨b2, 0, none⟩)] w fun e w' => e = .returned (.tuple #[]) ∧
      Blk w' p 24 [.int .i64 id, .slice A n cap, .int .i64 next] ∧ Own w' base 90 3 (.slice A n cap) ((setName cols k tn).map Col.cells) ∧ Turned w w' p (.slice A n cap) := by
  have hne := hown.ne_ hp (by decide)
  obtain ⟨g, cur, rfl, _, hgb, hg, hnc, hcm, hcs, htake⟩ := hown.blk (by simp; omega)
  obtain ⟨p0, p1, p2⟩ := At.z3 hp.at0
  simp only [maxLen] at hcm
  have hkc : k < cap := by omega
  have hf := hg.free (k * 3 + 1)
  obtain ⟨u, hu⟩ : ∃ u, w.cell? ⟨g, k * 3 + 1, none⟩ = some u := by
    have := hg.at0 (k * 3 + 1) (cur[k * 3 + 1]'(by omega)) (by simp)
    rw [Nat.zero_add] at this
    exact ⟨_, this⟩
  have HG := hide hne
  have HP := hide hp
  have HB := hide hg
  have HCS := hide hcs
  have HT := hide htake
  clear hp hg hne htake hcs hown
  go_enter Tryz.func146, Tryz.ntmps146
  go_wp2
  go_region
  all_goals
    go_wp2
    go_end0
    have k1 := HB.out.drew.set_ (k * 3 + 1) (.string tn)
    have hpg : p ≠ g := fun e => HG.out (by simp [Value.ownBlock, e])
    refine ⟨rfl, ?_, ?_, ?_⟩
    · exact HP.out.drew.far (p := ⟨g, k * 3 + 1, none⟩) hpg _
    · refine Own.of_blk k1 hgb (by simp [setName_length, hn]) (cols_fit _).len hnc (by simp only [maxLen]; exact hcm) (by simpa using HCS.out) ?_
      rw [List.take_set, HT.out, setName_cells tn cols k (by omega)]
    · exact ⟨rfl, rfl, rfl, by simp [World.setCell], fun j hj _ hn => Below.heap_setCell w.drew _ _ j (fun e => hn (by simp [Value.ownBlock, e]))⟩
end Go.Proofs.YtnphokhehacfnaaGreatDoor
namespace Go.Proofs.YtnphokhehacfnaaGreatDoor
open Go.RowKit

theorem renameR_may {s : Sch} {nm nw : ByteArray} (h : mayB s = false) : renameR s nm nw = (Sch.zero, 1200) := by simp [renameR, h]
theorem renameR_none {s : Sch} {nm nw : ByteArray} (h : mayB s = true) (h2 : idx (named nm) s.cols < 0) : renameR s nm nw = (Sch.zero, 1202) := by simp [renameR, h, h2]
theorem renameR_name {s : Sch} {nm nw : ByteArray} (h : mayB s = true) (h2 : ¬ idx (named nm) s.cols < 0) (h3 : nameB nw = false) : renameR s nm nw = (Sch.zero, 1201) := by simp [renameR, h, h2, h3]
theorem renameR_there {s : Sch} {nm nw : ByteArray} (h : mayB s = true) (h2 : ¬ idx (named nm) s.cols < 0) (h3 : nameB nw = true) (h4 : 0 ≤ idx (named nw) s.cols) (h5 : idx (named nw) s.cols ≠ idx (named nm) s.cols) : renameR s nm nw = (Sch.zero, 1201) := by simp [renameR, h, h2, h3, h4, h5]
theorem renameR_next {s : Sch} {nm nw : ByteArray} (h : mayB s = true) (h2 : ¬ idx (named nm) s.cols < 0) (h3 : nameB nw = true) (h4 : ¬ (0 ≤ idx (named nw) s.cols ∧ idx (named nw) s.cols ≠ idx (named nm) s.cols)) :
    renameR s nm nw = nextR ⟨s.id + 1, setName s.cols (s.cols.findIdx (named nm)) nw, s.next⟩ := by simp only [renameR, h, h3, if_neg h2, if_neg h4]; rfl

set_option maxHeartbeats 4000000 in
theorem rename_any (s : Sch) (A : Option Addr) (cap : Nat) (nm nw : ByteArray) (w : World) (hs : SchIn w s A cap) (hn : nw.size ≤ 9223372036854775807) :
    Calls Tryz.prog 93 #[s.val A cap, .string nm, .string nw] w (SchRes w (renameR s nm nw)) := by
  have HS0 := hide (((hs.al (.cells #[.int .i64 s.id, .slice A s.cols.length cap, .int .i64 s.next] 24)).al (.cells #[.string nw] 9)).al (.cells #[.int .i64 0, .slice none 0 0, .int .i64 0] 24))
  have HF0 := hide ((((Blks.nil_ w).push 24 [.int .i64 s.id, .slice A s.cols.length cap, .int .i64 s.next]).push 9 [.string nw]).push 24 [.int .i64 0, .slice none 0 0, .int .i64 0])
  simp only [hsz] at HF0
  obtain ⟨x1, x2⟩ := idx_bd (named nm) s.cols
  obtain ⟨x4, x5⟩ := idx_bd (named nw) s.cols
  have x3 := hs.len
  have HB0 : Hid (Below w.heap.size w (((w.alloc (.cells #[.int .i64 s.id, .slice A s.cols.length cap, .int .i64 s.next] 24)).alloc (.cells #[.string nw] 9)).alloc (.cells #[.int .i64 0, .slice none 0 0, .int .i64 0] 24))) := (((below_a1 w _).alloc (by simp) _).alloc (by simp; omega) _)
  unfold Sch.val
  obtain ⟨W, hW⟩ : ∃ W, W = (((w.alloc (.cells #[.int .i64 s.id, .slice A s.cols.length cap, .int .i64 s.next] 24)).alloc (.cells #[.string nw] 9)).alloc (.cells #[.int .i64 0, .slice none 0 0, .int .i64 0] 24)) := ⟨_, rfl⟩
  have hWs : w.heap.size + 1 + 1 < W.heap.size := by rw [hW]; simp
  have HW := hide hW; clear hW
  go_enter Tryz.func93, Tryz.ntmps93
  go_upto_region 1 with fail
  rw [← HW.out] at HS0 HF0 HB0 ⊢
  go_cut [8, 9] (fun s8 s9 wx => ∃ g : Nat, s8 = .pointer (some ⟨g, 0, none⟩) ∧ s9 = .int .i64 (idx (named nw) s.cols) ∧ Below W.heap.size W wx ∧ W.heap.size ≤ g ∧ g < wx.heap.size ∧ wx.cell? ⟨g, 0, none⟩ = some (.int .i64 (idx (named nm) s.cols)))
  case first =>
    have KS : Hid (∀ w', Below W.heap.size W w' → w'.cell? ⟨w.heap.size, 0, none⟩ = some (.int .i64 s.id) ∧ w'.cell? ⟨w.heap.size, 1, none⟩ = some (.slice A s.cols.length cap) ∧ w'.cell? ⟨w.heap.size, 2, none⟩ = some (.int .i64 s.next) ∧
        w'.cell? ⟨w.heap.size + 1, 0, none⟩ = some (.string nw) ∧ Below W.heap.size W w') := fun w' hb => by
      obtain ⟨_, b1, b0, _⟩ := HF0.out.after hb
      obtain ⟨q0, q1, q2⟩ := At.z3 b0.at0
      exact ⟨q0, q1, q2, At.z1 b1.at0, hb⟩
    have K0 := hide (KS.out W.drew (Below.refl _ _).drew)
    obtain ⟨k0, k1, k2, k3, _⟩ := K0.out
    go_region_held3 (fun w' => w'.cell? ⟨w.heap.size, 0, none⟩ = some (.int .i64 s.id) ∧ w'.cell? ⟨w.heap.size, 1, none⟩ = some (.slice A s.cols.length cap) ∧ w'.cell? ⟨w.heap.size, 2, none⟩ = some (.int .i64 s.next) ∧
        w'.cell? ⟨w.heap.size + 1, 0, none⟩ = some (.string nw) ∧ Below W.heap.size W w')
      (first | exact K0.out | exact KS.out _ (by assumption) | exact KS.out _ ((Below.refl _ _).drew.alloc (Nat.le_refl _) _) | exact KS.out _ (Below.alloc (by assumption) (by first | omega | (simp; omega)) _) | exact KS.out _ (Below.setCell (by assumption) (by first | exact Nat.le_refl _ | (show W.heap.size ≤ World.heap _ |>.size; omega) | (simp; omega) | simp) _))
      (first | (go_at_call 125; have kS := ‹_ ∧ _ ∧ _ ∧ _ ∧ Below W.heap.size W _›; obtain ⟨_, _, _, _, kB⟩ := kS; have hx := (HS0.out.below kB).find; unfold Sch.val at hx; refine (hx _).mono ?_; rintro e w' ⟨rfl, hb⟩; obtain ⟨c1, f1⟩ := bcell hb; have kB' := kB.trans (hb.mono kB.size); have k9 := kB'.size; have k8 := hb.size; (try have k7 : W.heap.size < w'.heap.size := (by simp at k8; omega)); clear hx hb kB))
    all_goals
      go_wp2_with fail
      go_meet
      refine ⟨_, rfl, rfl, ?_, ?_, ?_, ?_⟩
      · first | exact Below.setCell (by assumption) (by first | exact Nat.le_refl _ | (simp; omega) | simp) _ | exact Below.alloc (by assumption) (by first | omega | (simp; omega)) _
      · first | exact Nat.le_refl _ | omega
      · first | (simp; done) | (simp; omega) | (simp [World.setCell]; omega) | (simp [World.setCell]; simp at k8; omega)
      · first | (simp [go_sem, *]; done)
  case rest =>
    obtain ⟨g, rfl, rfl, hbx, hg1, hg2, hgc⟩ := hcut
    have HSx := hide (HS0.out.below hbx)
    have HFx := hide (HF0.out.after hbx)
    have HBx := hide (HB0.out.trans (hbx.mono (by omega)))
    have zx := hbx.size
    clear hbx HS0 HF0 HB0 HW
    obtain ⟨b2, b1, b0, _⟩ := HFx.out
    obtain ⟨p0_0, p0_1, p0_2⟩ := At.z3 b0.at0
    have p1_0 := At.z1 b1.at0
    obtain ⟨p2_0, p2_1, p2_2⟩ := At.z3 b2.at0
    have f2 := b2.free
    clear b2 b1 b0
    have HM := hide HSx.out.may
    unfold Sch.val at HM
    go_wp2_with fail
    refine HM.out.mono ?_
    rintro e w2 ⟨rfl, hb2⟩
    have z2 := hb2.size
    have HB2 := hide (HBx.out.trans (hb2.mono (by omega)))
    have HS2 := hide (HSx.out.below hb2)
    have HF2 := hide (HFx.out.after hb2)
    have hgc2 := (hb2.cell (p := ⟨g, 0, none⟩) (by simp only; omega)).trans hgc
    clear p0_0 p0_1 p0_2 p1_0 p2_0 p2_1 p2_2 f2 hb2 hgc
    obtain ⟨b2, b1, b0, _⟩ := HF2.out
    obtain ⟨p2_0, p2_1, p2_2⟩ := At.z3 b2.at0
    have p1_0 := At.z1 b1.at0
    obtain ⟨p0_0, p0_1, p0_2⟩ := At.z3 b0.at0
    have f2 := b2.free
    have l2 := b2.lt
    have HR2 := hide b2
    clear b0 b1 b2
    cases hm : mayB s with
    | false =>
      have Hm := hide hm; clear hm
      go_wp2_with fail
      obtain ⟨t0, t1, t2⟩ := At.z3 (store3 HR2.out (.int .i64 0) (.slice none 0 0) (.int .i64 0))
      refine bodyPost_ret (v := .tuple #[.agg #[.int .i64 0, .slice none 0 0, .int .i64 0], .int .i64 1200]) (by simp [results, Tryz.results93, go_sem, t0, t1, t2]) rfl ?_
      rw [renameR_may Hm.out]
      exact SchRes.err (below3 HB2.out (by omega) _ _ _)
    | true =>
      have Hm := hide hm; clear hm
      obtain ⟨i1, i2, i3, i4, i5⟩ := addR_inv Hm.out
      by_cases hi : idx (named nm) s.cols < 0
      · go_wp2_with fail
        obtain ⟨t0, t1, t2⟩ := At.z3 (store3 HR2.out (.int .i64 0) (.slice none 0 0) (.int .i64 0))
        refine bodyPost_ret (v := .tuple #[.agg #[.int .i64 0, .slice none 0 0, .int .i64 0], .int .i64 1202]) (by simp [results, Tryz.results93, go_sem, t0, t1, t2]) rfl ?_
        rw [renameR_none Hm.out hi]
        exact SchRes.err (below3 HB2.out (by omega) _ _ _)
      · go_wp2_with fail
        refine (name_any nw w2 hn).mono ?_
        rintro e w3 ⟨rfl, hb3⟩
        have z3 := hb3.size
        have HB3 := hide (HB2.out.trans (hb3.mono (by omega)))
        have HS3 := hide (HS2.out.below hb3)
        have HF3 := hide (HF2.out.after hb3)
        have hgc3 := (hb3.cell (p := ⟨g, 0, none⟩) (by simp only; omega)).trans hgc2
        clear p0_0 p0_1 p0_2 p1_0 p2_0 p2_1 p2_2 f2 hb3 hgc2
        obtain ⟨b2, b1, b0, _⟩ := HF3.out
        obtain ⟨p2_0, p2_1, p2_2⟩ := At.z3 b2.at0
        have p1_0 := At.z1 b1.at0
        obtain ⟨p0_0, p0_1, p0_2⟩ := At.z3 b0.at0
        have f2 := b2.free
        have l2 := b2.lt
        have HR3 := hide b2
        clear b0 b1 b2
        cases hnm : nameB nw with
        | false =>
          have Hn := hide hnm; clear hnm
          go_wp2_with fail
          obtain ⟨t0, t1, t2⟩ := At.z3 (store3 HR3.out (.int .i64 0) (.slice none 0 0) (.int .i64 0))
          refine bodyPost_ret (v := .tuple #[.agg #[.int .i64 0, .slice none 0 0, .int .i64 0], .int .i64 1201]) (by simp [results, Tryz.results93, go_sem, t0, t1, t2]) rfl ?_
          rw [renameR_name Hm.out (by omega) Hn.out]
          exact SchRes.err (below3 HB3.out (by omega) _ _ _)
        | true =>
          have Hn := hide hnm; clear hnm
          by_cases hj : 0 ≤ idx (named nw) s.cols
          · by_cases hk : idx (named nw) s.cols = idx (named nm) s.cols
            · have HKK := hide hk
              have hkk : (idx (named nw) s.cols != idx (named nm) s.cols) = false := by simp [hk]
              clear hk
              obtain ⟨y1, y2⟩ := idx_yes (p := named nm) (l := s.cols) (by omega)
              have HY := hide y1; clear y1
              have HC : Hid (¬ (0 ≤ idx (named nw) s.cols ∧ idx (named nw) s.cols ≠ idx (named nm) s.cols)) := fun hh => hh.2 HKK.out
              have HX : Hid (Calls Tryz.prog 141 #[.agg #[.int .i64 s.id, .slice A s.cols.length cap, .int .i64 s.next], .func (.func 146) #[] #[.pointer (some ⟨w.heap.size + 1, 0, none⟩), .pointer (some ⟨g, 0, none⟩)]] w3 (SchRes w3 (nextR ⟨s.id + 1, setName s.cols (s.cols.findIdx (named nm)) nw, s.next⟩))) := by
                refine next_any 146 _ s ⟨s.id + 1, setName s.cols (s.cols.findIdx (named nm)) nw, s.next⟩ A cap w3 (by omega) (by simp only [setName_length]; omega) HS3.out.at_ ⟨by omega, by omega⟩ rfl ?_ ?_ ?_
                · intro c hc
                  simp only [setName] at hc
                  obtain ⟨i, hi1, hi2⟩ := List.mem_iff_getElem.1 hc
                  rw [List.getElem_modify] at hi2
                  split at hi2
                  · subst hi2; exact hn
                  · subst hi2; exact hs.names _ (List.getElem_mem _)
                · intro args w9
                  kernel_rfl
                · intro w5 p base cap1 A1 h1 h2 h3 h4 h5 h6
                  obtain ⟨b2, b1, b0, _⟩ := HF3.out
                  have lb := b2.lt
                  have hcell := (h1.cell (p := ⟨g, 0, none⟩) (by simp only; omega)).trans hgc3
                  rw [HY.out] at hcell
                  refine (rename1_any p (w.heap.size + 1) g base (s.cols.findIdx (named nm)) s.cols.length cap1 A1 (s.id + 1) s.next nw s.cols w5 h5 (At.z1 (b1.below h1 (by omega)).at0) hcell h6 rfl y2).mono ?_
                  rintro e w6 ⟨he, g3, g4, g5⟩
                  obtain ⟨_, _, _, _, _, _, g1, g2, _⟩ := h6.blk (by simp; omega)
                  refine ⟨he, A1, cap1, by rw [setName_length]; exact g1, g2, by simpa only [setName_length] using g3, by simpa only [setName_length] using g4, g5⟩
              go_wp2_with fail
              refine HX.out.mono ?_
              rintro e w4 ⟨A4, cap4, rfl, g1, g2, g3, g4⟩
              have HF4 := hide (HF3.out.after g4)
              clear p0_0 p0_1 p0_2 p1_0 p2_0 p2_1 p2_2 f2
              obtain ⟨b2, b1, b0, _⟩ := HF4.out
              obtain ⟨p2_0, p2_1, p2_2⟩ := At.z3 b2.at0
              have p1_0 := At.z1 b1.at0
              obtain ⟨p0_0, p0_1, p0_2⟩ := At.z3 b0.at0
              have f2 := b2.free
              have l2 := b2.lt
              have HR4 := hide b2
              clear b0 b1 b2
              have Hg := hide g4; clear g4
              unfold Sch.val
              go_wp2_with fail
              obtain ⟨t0, t1, t2⟩ := At.z3 (store3 HR4.out (.int .i64 (nextR ⟨s.id + 1, setName s.cols (s.cols.findIdx (named nm)) nw, s.next⟩).1.id) (.slice A4 (nextR ⟨s.id + 1, setName s.cols (s.cols.findIdx (named nm)) nw, s.next⟩).1.cols.length cap4) (.int .i64 (nextR ⟨s.id + 1, setName s.cols (s.cols.findIdx (named nm)) nw, s.next⟩).1.next))
              refine bodyPost_ret (v := .tuple #[(nextR ⟨s.id + 1, setName s.cols (s.cols.findIdx (named nm)) nw, s.next⟩).1.val A4 cap4, .int .i64 (nextR ⟨s.id + 1, setName s.cols (s.cols.findIdx (named nm)) nw, s.next⟩).2]) (by simp [results, Tryz.results93, go_sem, t0, t1, t2, Sch.val]) rfl ?_
              rw [renameR_next Hm.out (by omega) Hn.out HC.out]
              exact SchRes.store g1 g2 g3 (HB3.out.trans (Hg.out.mono (by omega))) (by omega) HR4.out (by omega)
            · have hkk : (idx (named nw) s.cols != idx (named nm) s.cols) = true := by simp [hk]
              go_wp2_with fail
              obtain ⟨t0, t1, t2⟩ := At.z3 (store3 HR3.out (.int .i64 0) (.slice none 0 0) (.int .i64 0))
              refine bodyPost_ret (v := .tuple #[.agg #[.int .i64 0, .slice none 0 0, .int .i64 0], .int .i64 1201]) (by simp [results, Tryz.results93, go_sem, t0, t1, t2]) rfl ?_
              rw [renameR_there Hm.out (by omega) Hn.out hj hk]
              exact SchRes.err (below3 HB3.out (by omega) _ _ _)
          · have hj' : idx (named nw) s.cols < 0 := by omega
            obtain ⟨y1, y2⟩ := idx_yes (p := named nm) (l := s.cols) (by omega)
            have HY := hide y1; clear y1
            have HC : Hid (¬ (0 ≤ idx (named nw) s.cols ∧ idx (named nw) s.cols ≠ idx (named nm) s.cols)) := fun hh => hj hh.1
            have HX : Hid (Calls Tryz.prog 141 #[.agg #[.int .i64 s.id, .slice A s.cols.length cap, .int .i64 s.next], .func (.func 146) #[] #[.pointer (some ⟨w.heap.size + 1, 0, none⟩), .pointer (some ⟨g, 0, none⟩)]] w3 (SchRes w3 (nextR ⟨s.id + 1, setName s.cols (s.cols.findIdx (named nm)) nw, s.next⟩))) := by
              refine next_any 146 _ s ⟨s.id + 1, setName s.cols (s.cols.findIdx (named nm)) nw, s.next⟩ A cap w3 (by omega) (by simp only [setName_length]; omega) HS3.out.at_ ⟨by omega, by omega⟩ rfl ?_ ?_ ?_
              · intro c hc
                simp only [setName] at hc
                obtain ⟨i, hi1, hi2⟩ := List.mem_iff_getElem.1 hc
                rw [List.getElem_modify] at hi2
                split at hi2
                · subst hi2; exact hn
                · subst hi2; exact hs.names _ (List.getElem_mem _)
              · intro args w9
                kernel_rfl
              · intro w5 p base cap1 A1 h1 h2 h3 h4 h5 h6
                obtain ⟨b2, b1, b0, _⟩ := HF3.out
                have lb := b2.lt
                have hcell := (h1.cell (p := ⟨g, 0, none⟩) (by simp only; omega)).trans hgc3
                rw [HY.out] at hcell
                refine (rename1_any p (w.heap.size + 1) g base (s.cols.findIdx (named nm)) s.cols.length cap1 A1 (s.id + 1) s.next nw s.cols w5 h5 (At.z1 (b1.below h1 (by omega)).at0) hcell h6 rfl y2).mono ?_
                rintro e w6 ⟨he, g3, g4, g5⟩
                obtain ⟨_, _, _, _, _, _, g1, g2, _⟩ := h6.blk (by simp; omega)
                refine ⟨he, A1, cap1, by rw [setName_length]; exact g1, g2, by simpa only [setName_length] using g3, by simpa only [setName_length] using g4, g5⟩
            go_wp2_with fail
            refine HX.out.mono ?_
            rintro e w4 ⟨A4, cap4, rfl, g1, g2, g3, g4⟩
            have HF4 := hide (HF3.out.after g4)
            clear p0_0 p0_1 p0_2 p1_0 p2_0 p2_1 p2_2 f2
            obtain ⟨b2, b1, b0, _⟩ := HF4.out
            obtain ⟨p2_0, p2_1, p2_2⟩ := At.z3 b2.at0
            have p1_0 := At.z1 b1.at0
            obtain ⟨p0_0, p0_1, p0_2⟩ := At.z3 b0.at0
            have f2 := b2.free
            have l2 := b2.lt
            have HR4 := hide b2
            clear b0 b1 b2
            have Hg := hide g4; clear g4
            unfold Sch.val
            go_wp2_with fail
            obtain ⟨t0, t1, t2⟩ := At.z3 (store3 HR4.out (.int .i64 (nextR ⟨s.id + 1, setName s.cols (s.cols.findIdx (named nm)) nw, s.next⟩).1.id) (.slice A4 (nextR ⟨s.id + 1, setName s.cols (s.cols.findIdx (named nm)) nw, s.next⟩).1.cols.length cap4) (.int .i64 (nextR ⟨s.id + 1, setName s.cols (s.cols.findIdx (named nm)) nw, s.next⟩).1.next))
            refine bodyPost_ret (v := .tuple #[(nextR ⟨s.id + 1, setName s.cols (s.cols.findIdx (named nm)) nw, s.next⟩).1.val A4 cap4, .int .i64 (nextR ⟨s.id + 1, setName s.cols (s.cols.findIdx (named nm)) nw, s.next⟩).2]) (by simp [results, Tryz.results93, go_sem, t0, t1, t2, Sch.val]) rfl ?_
            rw [renameR_next Hm.out (by omega) Hn.out HC.out]
            exact SchRes.store g1 g2 g3 (HB3.out.trans (Hg.out.mono (by omega))) (by omega) HR4.out (by omega)
end Go.Proofs.YtnphokhehacfnaaGreatDoor
namespace Go.Proofs.YtnphokhehacfnaaGreatDoor
open Go.RowKit

end Go.Proofs.YtnphokhehacfnaaGreatDoor
namespace Go.Proofs.YtnphokhehacfnaaGreatDoor
open Go.RowKit

def str (l : List UInt8) : ByteArray := ⟨l.toArray⟩
def aw1 : Sch := ⟨0, [⟨1, str [97], 1⟩, ⟨2, str [98], 3⟩], 3⟩
def aw2 : Sch := ⟨1, [⟨1, str [97], 1⟩, ⟨2, str [98], 3⟩, ⟨3, str [99], 2⟩], 4⟩
def aw3 : Sch := ⟨2, [⟨2, str [98], 3⟩, ⟨3, str [99], 2⟩], 4⟩
def aw4 : Sch := ⟨3, [⟨2, str [97], 3⟩, ⟨3, str [99], 2⟩], 4⟩
end Go.Proofs.YtnphokhehacfnaaGreatDoor
namespace Go.Proofs.YtnphokhehacfnaaGreatDoor
open Go.RowKit

end Go.Proofs.YtnphokhehacfnaaGreatDoor

