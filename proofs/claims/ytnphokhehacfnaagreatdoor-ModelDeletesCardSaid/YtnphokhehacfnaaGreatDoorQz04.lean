/-
  Texts put together: Pa, Ra, Rb, Ns, Ps, Pb.
-/
import Derived.Deep.RegionHeld3
import Derived.Deep.RegionLaw
import Derived.Deep.Cut
import Derived.Deep.CutBlock
import Derived.Test.YtnphokhehacfnaaGreatDoorQz00
import Derived.Test.YtnphokhehacfnaaGreatDoorQz01
import Derived.Test.YtnphokhehacfnaaGreatDoorQz02
namespace Go.Proofs.YtnphokhehacfnaaGreatDoor
open Go.RowKit

theorem At.far {w : World} {b o r i : Nat} {cs : List Value} (h : At w b o cs) (hne : b ≠ r) (u : Value) : At (w.setCell ⟨r, i, none⟩ u) b o cs := h.keep fun o' => World.cell?_of_block (w := w) (Below.heap_setCell w _ u b (by simpa using hne))
theorem hdz (w : World) : w.drew.heap.size = w.heap.size := rfl
theorem ptruth_any (b : Bool) (w : World) : Calls Tryz.prog 209 #[.bool b] w fun e w' => e = .returned (.int .i64 (truthI b)) ∧ w = w' := by
  cases b
  all_goals
    go_enter Tryz.func209, Tryz.ntmps209
    go_wp2
    go_ret
    exact ⟨rfl, rfl⟩
set_option maxHeartbeats 1000000 in
theorem pjoin_any (k a b : Int) (w : World) (hk : k = 3 ∨ k = 4 ∨ k = 5) (ha : Tr a) (hb : Tr b) : Calls Tryz.prog 204 #[.int .i64 k, .int .i64 a, .int .i64 b] w fun e w' => e = .returned (.int .i64 (joinT k a b)) ∧ w = w' := by
  rcases hk with rfl | rfl | rfl <;> rcases ha with rfl | rfl | rfl <;> rcases hb with rfl | rfl | rfl
  all_goals
    go_enter Tryz.func204, Tryz.ntmps204
    go_wp2_with (go_at_call 209; refine (ptruth_any _ _).mono ?_; rintro e w' ⟨rfl, rfl⟩)
    go_ret
    exact ⟨rfl, rfl⟩
theorem clean_nil {v : Val} (h : kindV v = 0) : clean v = Val.zero := by
  unfold kindV at h
  have h1 : v.kind ≠ 1 := by intro e; simp [e] at h
  have h2 : v.kind ≠ 2 := by intro e; simp [e] at h
  have h3 : v.kind ≠ 3 := by intro e; simp [e] at h
  simp [clean, h1, h2, h3]
def Val.box (v : Val) : List Value := [.int .i64 (kindV v), .int .i64 (clean v).i, .bool (clean v).b, .string (clean v).s]
theorem Blk.put4 {w : World} {g : Nat} {e : TypeId} {a b c d : Value} (h : Blk w g e [a, b, c, d]) (x y z u : Value) : Blk ((((w.setCell ⟨g, 0, none⟩ x).setCell ⟨g, 1, none⟩ y).setCell ⟨g, 2, none⟩ z).setCell ⟨g, 3, none⟩ u) g e [x, y, z, u] :=
  (((h.set_ 0 x).set_ 1 y).set_ 2 z).set_ 3 u
theorem Blk.far4 {w : World} {g r : Nat} {e : TypeId} {cur : List Value} (h : Blk w g e cur) (hne : g ≠ r) (x y z u : Value) : Blk ((((w.setCell ⟨r, 0, none⟩ x).setCell ⟨r, 1, none⟩ y).setCell ⟨r, 2, none⟩ z).setCell ⟨r, 3, none⟩ u) g e cur :=
  (((h.far (p := ⟨r, 0, none⟩) hne x).far (p := ⟨r, 1, none⟩) hne y).far (p := ⟨r, 2, none⟩) hne z).far (p := ⟨r, 3, none⟩) hne u
theorem below4 {w w' : World} {B r : Nat} (h : Below B w w') (hr : B ≤ r) (x y z u : Value) : Below B w ((((w'.setCell ⟨r, 0, none⟩ x).setCell ⟨r, 1, none⟩ y).setCell ⟨r, 2, none⟩ z).setCell ⟨r, 3, none⟩ u) :=
  (((h.setCell (p := ⟨r, 0, none⟩) hr x).setCell (p := ⟨r, 1, none⟩) hr y).setCell (p := ⟨r, 2, none⟩) hr z).setCell (p := ⟨r, 3, none⟩) hr u

set_option maxRecDepth 100000 in
set_option maxHeartbeats 4000000 in
theorem pless_any (a b : Val) (w : World) : Calls Tryz.prog 183 #[a.val, b.val] w fun e w' => e = .returned (.bool (lessV a b)) ∧ Step w w' := by
  obtain ⟨R, hR⟩ : ∃ R, lessV a b = R := ⟨_, rfl⟩
  have HR := hide hR
  rw [hR]
  clear hR
  have PA := hide (plain_ag a)
  have PB := hide (plain_ag b)
  unfold Val.val
  have HA0 := hide ((Blk.new w a.cells 36).alloc (.cells #[.int .i64 b.kind, .int .i64 b.i, .bool b.b, .string b.s] 36))
  have HB0 := hide (Blk.new_at (w := w.alloc (.cells #[.int .i64 a.kind, .int .i64 a.i, .bool a.b, .string a.s] 36)) (b := w.heap.size + 1) (by simp) b.cells 36)
  go_enter Tryz.func183, Tryz.ntmps183
  go_upto_region 1 with (fail)
  obtain ⟨W, hW⟩ : ∃ W, W = (w.alloc (.cells #[.int .i64 a.kind, .int .i64 a.i, .bool a.b, .string a.s] 36)).alloc (.cells #[.int .i64 b.kind, .int .i64 b.i, .bool b.b, .string b.s] 36) := ⟨_, rfl⟩
  have SW : Step w W := by rw [hW]; exact Step.of
  have HA : Hid (Blk W w.heap.size 36 [.int .i64 a.kind, .int .i64 a.i, .bool a.b, .string a.s]) := by rw [hW]; exact HA0.out
  have HB : Hid (Blk W (w.heap.size + 1) 36 [.int .i64 b.kind, .int .i64 b.i, .bool b.b, .string b.s]) := by rw [hW]; exact HB0.out
  rw [← hW]
  clear hW HA0 HB0
  go_cut [8] from 5 to 7 (fun _ wx => Blk wx w.heap.size 36 a.box ∧ Blk wx (w.heap.size + 1) 36 b.box ∧ Step w wx)
  case first =>
    obtain ⟨a0, a1, a2, a3⟩ := At.z4 HA.out.at0
    obtain ⟨b0, b1, b2, b3⟩ := At.z4 HB.out.at0
    have la := HA.out.lt; have lb := HB.out.lt
    have fa := HA.out.free; have fb := HB.out.free
    go_region_law (first
      | (go_simp; go_at_call 109; first
          | ((with_reducible refine (PA.out _).mono ?_); intro e w5 hr5; obtain ⟨rfl, hs5⟩ := hr5; obtain ⟨c5, f5⟩ := hs5.reads; (try simp only [hdz] at c5 f5); have z6 := hs5.size; (try simp only [hdz] at z6); (try have lt6 : w.heap.size < w5.heap.size := by omega); (try have lt7 : w.heap.size + 1 < w5.heap.size := by omega))
          | ((with_reducible refine (PB.out _).mono ?_); intro e w6 hr6; obtain ⟨rfl, hs6⟩ := hr6; obtain ⟨c6, f6⟩ := hs6.reads; (try simp only [hdz] at c6 f6); have z7 := hs6.size; (try simp only [hdz] at z7); (try have lt8 : w.heap.size < w6.heap.size := by omega); (try have lt9 : w.heap.size + 1 < w6.heap.size := by omega))))
    all_goals
      go_wp2_with fail
      go_meet
      case rel =>
        have ka := HA.out.fut (w' := w6)
        have kb := HB.out.fut (w' := w6)
        exact ⟨(ka.put4 _ _ _ _).far4 (by omega) _ _ _ _, (kb.far4 (by omega) _ _ _ _).put4 _ _ _ _, ⟨below4 (below4 (fut w w6) (Nat.le_refl _) _ _ _ _) (by omega) _ _ _ _⟩⟩
  case rest =>
    obtain ⟨ha, hb, hs⟩ := hcut
    obtain ⟨a0, a1, a2, a3⟩ := At.z4 ha.at0
    obtain ⟨b0, b1, b2, b3⟩ := At.z4 hb.at0
    have la := ha.lt; have lb := hb.lt
    clear ha hb HA HB PA PB
    obtain ⟨x0, x3⟩ := kindV_bd a
    by_cases hk : kindV a = kindV b
    · have e0 : (kindV a != kindV b) = false := by simpa using hk
      have HK := hide hk
      clear hk
      have hcs : kindV a = 1 ∨ kindV a = 2 ∨ kindV a = 3 ∨ kindV a = 0 := by omega
      rcases hcs with h | h | h | h
      · have e1 : (kindV a == 1) = true := by simpa using h
        have HE : Hid (decide ((clean a).i < (clean b).i) = R) := by
          show _ = _
          rw [← HR.out, lessV, if_neg (by simp [HK.out]), if_pos h, clean_i h, clean_i (by rw [← HK.out]; exact h)]
        clear h x0 x3
        go_wp2
        go_ret
        exact ⟨ret_bool HE.out, hs⟩
      · have e1 : (kindV a == 1) = false := by simp [h]
        have e2 : (kindV a == 2) = true := by simpa using h
        have HE : Hid ((!(clean a).b && (clean b).b) = R) := by
          show _ = _
          rw [← HR.out, lessV, if_neg (by simp [HK.out]), if_neg (by omega), if_pos h, clean_b h, clean_b (by rw [← HK.out]; exact h)]
        clear h x0 x3
        obtain ⟨u, hu⟩ : ∃ u, (clean a).b = u := ⟨_, rfl⟩
        rw [hu] at HE a2
        clear hu
        cases u
        all_goals
          go_wp2
          go_ret
          exact ⟨ret_bool (by have := HE.out; simpa using this), hs⟩
      · have e1 : (kindV a == 1) = false := by simp [h]
        have e2 : (kindV a == 2) = false := by simp [h]
        have HE : Hid (Op.bytesLess (clean a).s.toList (clean b).s.toList = R) := by
          show _ = _
          rw [← HR.out, lessV, if_neg (by simp [HK.out]), if_neg (by omega), if_neg (by omega), if_pos h, clean_s h, clean_s (by rw [← HK.out]; exact h)]
          rfl
        clear h x0 x3
        go_wp2
        go_ret
        exact ⟨ret_bool HE.out, hs⟩
      · have e1 : (kindV a == 1) = false := by simp [h]
        have e2 : (kindV a == 2) = false := by simp [h]
        have HE : Hid (Op.bytesLess (clean a).s.toList (clean b).s.toList = R) := by
          show _ = _
          rw [← HR.out, lessV, if_neg (by simp [HK.out]), if_neg (by omega), if_neg (by omega), if_neg (by omega), clean_nil (v := b) (by rw [← HK.out]; exact h)]
          rw [ByteArray.toList_eq, ByteArray.toList_eq]
          exact bytesLess_nil _
        clear h x0 x3
        go_wp2
        go_ret
        exact ⟨ret_bool HE.out, hs⟩
    · have e0 : (kindV a != kindV b) = true := by simpa using hk
      have HE : Hid (decide (kindV a < kindV b) = R) := by
        show _ = _
        rw [← HR.out, lessV, if_pos hk]
      clear hk x0 x3
      go_wp2
      go_ret
      exact ⟨ret_bool HE.out, hs⟩

set_option maxHeartbeats 2000000 in
theorem pstands_any (c : Int) (a b : Val) (w : World) : Calls Tryz.prog 210 #[.int .i64 c, a.val, b.val] w fun e w' => e = .returned (.bool (standB c a b)) ∧ Step w w' := by
  obtain ⟨L, hL⟩ : ∃ L, lessV a b = L := ⟨_, rfl⟩
  obtain ⟨M, hM⟩ : ∃ M, lessV b a = M := ⟨_, rfl⟩
  have HS : Hid (standB c a b = (if c = 0 then !L && !M else if c = 1 then L || M else if c = 2 then L else if c = 3 then !M else if c = 4 then M else !L)) := by show _ = _; rw [← hL, ← hM]; rfl
  have pa := pless_any a b
  have pb := pless_any b a
  rw [hL] at pa
  rw [hM] at pb
  clear hL hM
  unfold Val.val at pa pb ⊢
  have PA := hide pa; have PB := hide pb
  clear pa pb
  obtain ⟨R, hR⟩ : ∃ R, standB c a b = R := ⟨_, rfl⟩
  rw [hR] at HS ⊢
  clear hR
  have HA0 := hide ((Blk.new w a.cells 36).alloc (.cells #[.int .i64 b.kind, .int .i64 b.i, .bool b.b, .string b.s] 36))
  have HB0 := hide (Blk.new_at (w := w.alloc (.cells #[.int .i64 a.kind, .int .i64 a.i, .bool a.b, .string a.s] 36)) (b := w.heap.size + 1) (by simp) b.cells 36)
  go_enter Tryz.func210, Tryz.ntmps210
  go_upto_region 1 with (fail)
  obtain ⟨W, hW⟩ : ∃ W, W = (w.alloc (.cells #[.int .i64 a.kind, .int .i64 a.i, .bool a.b, .string a.s] 36)).alloc (.cells #[.int .i64 b.kind, .int .i64 b.i, .bool b.b, .string b.s] 36) := ⟨_, rfl⟩
  have SW : Step w W := by rw [hW]; exact Step.of
  have HA : Hid (Blk W w.heap.size 36 [.int .i64 a.kind, .int .i64 a.i, .bool a.b, .string a.s]) := by rw [hW]; exact HA0.out
  have HB : Hid (Blk W (w.heap.size + 1) 36 [.int .i64 b.kind, .int .i64 b.i, .bool b.b, .string b.s]) := by rw [hW]; exact HB0.out
  rw [← hW]
  clear hW HA0 HB0
  go_cut [7, 8] from 9 to 14 (fun x y wx => x = .bool L ∧ y = .bool M ∧ Step W wx)
  case first =>
    obtain ⟨a0, a1, a2, a3⟩ := At.z4 HA.out.at0
    obtain ⟨b0, b1, b2, b3⟩ := At.z4 HB.out.at0
    have la := HA.out.lt; have lb := HB.out.lt
    go_region_held3 (fun w' => Step W w' ∧ (∀ b o, b < W.heap.size → w'.cell? ⟨b, o, none⟩ = W.cell? ⟨b, o, none⟩))
      (first | exact ⟨Step.of, (bcell (fut _ _)).1⟩)
      (first | (go_at_call 183; go_split_ands; first | ((with_reducible refine (PA.out _).mono ?_); rintro e w' ⟨rfl, hq⟩) | ((with_reducible refine (PB.out _).mono ?_); rintro e w' ⟨rfl, hq⟩)))
    all_goals
      go_wp2_with fail
      go_meet
      case rel => exact ⟨rfl, rfl, by go_split_ands; first | assumption | exact Step.of⟩
  case rest =>
    obtain ⟨rfl, rfl, hs⟩ := hcut
    clear PA PB HA HB
    by_cases h0 : c = 0
    · subst h0
      cases L <;> cases M
      all_goals
        go_wp2
        go_ret
        exact ⟨ret_bool (by rw [HS.out]; rfl), Step.of⟩
    have e0 : (c == 0) = false := by simpa using h0
    by_cases h1 : c = 1
    · subst h1
      clear h0 e0
      cases L <;> cases M
      all_goals
        go_wp2
        go_ret
        exact ⟨ret_bool (by rw [HS.out]; rfl), Step.of⟩
    have e1 : (c == 1) = false := by simpa using h1
    by_cases h2 : c = 2
    · subst h2
      clear h0 e0 h1 e1
      go_wp2
      go_ret
      exact ⟨ret_bool (by rw [HS.out]; rfl), Step.of⟩
    have e2 : (c == 2) = false := by simpa using h2
    by_cases h3 : c = 3
    · subst h3
      clear h0 e0 h1 e1 h2 e2
      go_wp2
      go_ret
      exact ⟨ret_bool (by rw [HS.out]; rfl), Step.of⟩
    have e3 : (c == 3) = false := by simpa using h3
    by_cases h4 : c = 4
    · subst h4
      clear h0 e0 h1 e1 h2 e2 h3 e3
      go_wp2
      go_ret
      exact ⟨ret_bool (by rw [HS.out]; rfl), Step.of⟩
    have e4 : (c == 4) = false := by simpa using h4
    have HX : Hid (R = !L) := by show _ = _; rw [HS.out]; simp [h0, h1, h2, h3, h4]
    clear h0 h1 h2 h3 h4
    go_wp2
    go_ret
    exact ⟨ret_bool HX.out.symm, Step.of⟩

theorem leafT_null {n : Nod} {v : Val} (h : n.kind = 2) : leafT n v = truthI (kindV v == 0) := by simp [leafT, h]
theorem leafT_cmp {n : Nod} {v : Val} (h : n.kind = 1) (hv : kindV v ≠ 0) : leafT n v = truthI (standB n.cmp v n.v) := by simp [leafT, h, hv]
theorem leafT_unk {n : Nod} {v : Val} (h : n.kind = 1) (hv : kindV v = 0) : leafT n v = 2 := by simp [leafT, h, hv]
def Val.cl (v : Val) : Val := ⟨kindV v, (clean v).i, (clean v).b, (clean v).s⟩
theorem cl_eq (v : Val) : v.cl = clean v := by rw [Val.cl, ← clean_kind]
set_option maxRecDepth 100000 in
set_option maxHeartbeats 4000000 in
/-- A node that stands in memory, and its truth of a value. -/
theorem pleaf_any {w0 : World} (b o : Nat) (n : Nod) (v : Val) (w : World) (hn : At w0 b o n.cells) (hb : b < w0.heap.size) [hf : Fut w0 w] (hk : n.kind = 1 ∨ n.kind = 2) :
    Calls Tryz.prog 203 #[.pointer (some ⟨b, o, none⟩), v.val] w fun e w' => e = .returned (.int .i64 (leafT n v)) ∧ Step w w' := by
  have PV := hide (plain_ag v)
  have hz := hf.below.size
  have hlt : b < w.heap.size := by omega
  have HN := hide hn; clear hn
  have HV0 := hide (Blk.new w [.int .i64 v.kind, .int .i64 v.i, .bool v.b, .string v.s] 36)
  unfold Val.val
  obtain ⟨R, hR⟩ : ∃ R, leafT n v = R := ⟨_, rfl⟩
  have HR := hide hR
  rw [hR]
  clear hR
  go_enter Tryz.func203, Tryz.ntmps203
  go_wp2_with fail
  refine (PV.out _).mono ?_
  rintro e w1 ⟨rfl, hs1⟩
  have HV1 := hide (HV0.out.fut (w' := w1))
  obtain ⟨v0, v1, v2, v3⟩ := At.z4 HV1.out.at0
  have fv := HV1.out.free; have lv := HV1.out.lt
  obtain ⟨n0, n1, n2, n3, n4, n5, n6, n7, n8⟩ := At.l9 (HN.out.below (fut w0 w1) hb)
  have hlt1 : b < w1.heap.size := by omega
  have hne : b ≠ w.heap.size := by omega
  rcases hk with hk | hk
  · by_cases hv : kindV v = 0
    · have hv' : (kindV v == 0) = true := by simpa using hv
      have HL := hide (leafT_unk hk hv)
      rw [hk] at n0
      clear hk hv
      go_wp2_with fail
      go_ret
      exact ⟨ret_int (by rw [← HR.out, HL.out]), ⟨below4 (fut w w1) (Nat.le_refl _) _ _ _ _⟩⟩
    · have hv' : (kindV v == 0) = false := by simpa using hv
      have HL := hide (leafT_cmp hk hv)
      have ps := pstands_any n.cmp v.cl n.v
      have hst : standB n.cmp v.cl n.v = standB n.cmp v n.v := by rw [cl_eq, standB_clean]
      rw [hst] at ps
      unfold Val.val Val.cl at ps
      have PS := hide ps
      rw [hk] at n0
      clear hk hv hst ps
      go_upto_region 8 with (fail)
      obtain ⟨W, hW⟩ : ∃ W, W = (((w1.setCell ⟨w.heap.size, 0, none⟩ (.int .i64 (kindV v))).setCell ⟨w.heap.size, 1, none⟩ (.int .i64 (clean v).i)).setCell ⟨w.heap.size, 2, none⟩ (.bool (clean v).b)).setCell ⟨w.heap.size, 3, none⟩ (.string (clean v).s) := ⟨_, rfl⟩
      have SW : Step w W := by rw [hW]; exact ⟨below4 (fut w w1) (Nat.le_refl _) _ _ _ _⟩
      have HVW : Hid (Blk W w.heap.size 36 v.box) := by rw [hW]; exact HV1.out.put4 _ _ _ _
      have HNW : Hid (At W b o n.cells) := by rw [hW]; exact ((((HN.out.below (fut w0 w1) hb).far hne _).far hne _).far hne _).far hne _
      have hzW : b < W.heap.size := by rw [hW]; simpa [World.setCell] using hlt1
      rw [← hW]
      clear hW v0 v1 v2 v3 n0 n1 n2 n3 n4 n5 n6 n7 n8 fv lv HV1
      obtain ⟨v0, v1, v2, v3⟩ := At.z4 HVW.out.at0
      obtain ⟨n0, n1, n2, n3, n4, n5, n6, n7, n8⟩ := At.l9 HNW.out
      have lv := HVW.out.lt
      refine wp_region_held_drew (S := (fun w' => Step W w' ∧ (∀ b o, b < W.heap.size → w'.cell? ⟨b, o, none⟩ = W.cell? ⟨b, o, none⟩))) (by kernel_rfl) (by (try dsimp only); (first | exact ⟨hS1, hS2⟩ | exact ⟨Step.of, (bcell (fut _ _)).1⟩)) (fun hHeld => ?_)
      refine wpAnyH_take (i := 0) (oi := ⟨some 27, _, _, _, _, _⟩) (v := ?va1) rfl (by kernel_rfl) (by kernel_rfl) (by kernel_rfl) (fun _ _ _ h => h) (Or.inl ⟨by rfl, ?hy1⟩) (by assumption) ?rs1
      case hy1 => ((intro w hSw); (try dsimp only at hSw); go_simp; (try with_reducible rfl))
      (try simp only [Act.put, List.setIfInBounds_toArray, List.set_cons_zero, List.set_cons_succ])
      refine wpAnyH_take (i := 1) (oi := ⟨some 28, _, _, _, _, _⟩) (v := ?va2) rfl (by kernel_rfl) (by kernel_rfl) (by kernel_rfl) (fun _ _ _ h => h) (Or.inl ⟨by rfl, ?hy2⟩) (by assumption) ?rs2
      case hy2 => ((intro w hSw); (try dsimp only at hSw); go_simp; (try with_reducible rfl))
      (try simp only [Act.put, List.setIfInBounds_toArray, List.set_cons_zero, List.set_cons_succ])
      refine wpAnyH_take (i := 2) (oi := ⟨some 29, _, _, _, _, _⟩) (v := ?va3) rfl (by kernel_rfl) (by kernel_rfl) (by kernel_rfl) (fun _ _ _ h => h) (Or.inl ⟨by rfl, ?hy3⟩) (by assumption) ?rs3
      case hy3 => ((intro w hSw); (try dsimp only at hSw); go_simp; (try with_reducible rfl))
      (try simp only [Act.put, List.setIfInBounds_toArray, List.set_cons_zero, List.set_cons_succ])
      refine wpAnyH_take (i := 3) (oi := ⟨some 30, _, _, _, _, _⟩) (v := ?va4) rfl (by kernel_rfl) (by kernel_rfl) (by kernel_rfl) (fun _ _ _ h => h) (Or.inl ⟨by rfl, ?hy4⟩) (by assumption) ?rs4
      case hy4 => ((intro w hSw); (try dsimp only at hSw); go_simp; (try with_reducible rfl))
      (try simp only [Act.put, List.setIfInBounds_toArray, List.set_cons_zero, List.set_cons_succ])
      refine wpAnyH_take (i := 4) (oi := ⟨some 31, _, _, _, _, _⟩) (v := ?va5) rfl (by kernel_rfl) (by kernel_rfl) (by kernel_rfl) (fun _ _ _ h => h) (Or.inl ⟨by rfl, ?hy5⟩) (by assumption) ?rs5
      case hy5 => ((intro w hSw); (try dsimp only at hSw); go_simp; (try with_reducible rfl))
      (try simp only [Act.put, List.setIfInBounds_toArray, List.set_cons_zero, List.set_cons_succ])
      refine wpAnyH_take (i := 5) (oi := ⟨some 32, _, _, _, _, _⟩) (v := ?va6) rfl (by kernel_rfl) (by kernel_rfl) (by kernel_rfl) (fun _ _ _ h => h) (Or.inl ⟨by rfl, ?hy6⟩) (by assumption) ?rs6
      case hy6 => ((intro w hSw); (try dsimp only at hSw); go_simp; (try with_reducible rfl))
      (try simp only [Act.put, List.setIfInBounds_toArray, List.set_cons_zero, List.set_cons_succ])
      refine wpAnyH_take (i := 6) (oi := ⟨some 33, _, _, _, _, _⟩) (v := ?va7) rfl (by kernel_rfl) (by kernel_rfl) (by kernel_rfl) (fun _ _ _ h => h) (Or.inl ⟨by rfl, ?hy7⟩) (by assumption) ?rs7
      case hy7 => ((intro w hSw); (try dsimp only at hSw); go_simp; (try with_reducible rfl))
      (try simp only [Act.put, List.setIfInBounds_toArray, List.set_cons_zero, List.set_cons_succ])
      refine wpAnyH_take (i := 7) (oi := ⟨some 34, _, _, _, _, _⟩) (v := ?va8) rfl (by kernel_rfl) (by kernel_rfl) (by kernel_rfl) (fun _ _ _ h => h) (Or.inl ⟨by rfl, ?hy8⟩) (by assumption) ?rs8
      case hy8 => ((intro w hSw); (try dsimp only at hSw); go_simp; (try with_reducible rfl))
      (try simp only [Act.put, List.setIfInBounds_toArray, List.set_cons_zero, List.set_cons_succ])
      refine wpAnyH_take (i := 8) (oi := ⟨some 35, _, _, _, _, _⟩) (v := ?va9) rfl (by kernel_rfl) (by kernel_rfl) (by kernel_rfl) (fun _ _ _ h => h) (Or.inl ⟨by rfl, ?hy9⟩) (by assumption) ?rs9
      case hy9 => ((intro w hSw); (try dsimp only at hSw); go_simp; (try with_reducible rfl))
      (try simp only [Act.put, List.setIfInBounds_toArray, List.set_cons_zero, List.set_cons_succ])
      refine wpAnyH_ready (rs := [9]) (by kernel_rfl) (by simp) ?_
      refine AllReadyH.cons (o := ⟨some 36, _, _, _, _, _⟩) rfl (fun K hK => ?_) AllReadyH.nil
      obtain ⟨hS1, hS2⟩ := hHeld
      go_simp
      (go_at_call 210; (with_reducible refine (PS.out _).mono ?_); rintro e w' ⟨rfl, hq⟩)
      refine hK.out _ _ (by (try dsimp only); (first | exact ⟨hS1, hS2⟩ | exact ⟨Step.of, (bcell (fut _ _)).1⟩)) (fun hHeld => ?_)
      clear hK K
      (try simp only [Act.put, List.setIfInBounds_toArray, List.set_cons_zero, List.set_cons_succ])
      refine wpAnyH_ready (rs := [10]) (by kernel_rfl) (by simp) ?_
      refine AllReadyH.cons (o := ⟨some 37, _, _, _, _, _⟩) rfl (fun K hK => ?_) AllReadyH.nil
      obtain ⟨hS1, hS2⟩ := hHeld
      go_simp
      (go_at_call 209; (with_reducible refine (ptruth_any _ _).mono ?_); rintro e w' ⟨rfl, rfl⟩)
      refine hK.out _ _ (by (try dsimp only); (first | exact ⟨hS1, hS2⟩ | exact ⟨Step.of, (bcell (fut _ _)).1⟩)) (fun hHeld => ?_)
      clear hK K
      (try simp only [Act.put, List.setIfInBounds_toArray, List.set_cons_zero, List.set_cons_succ])
      refine wpAnyH_take (i := 11) (oi := ⟨some 4, _, _, _, _, _⟩) (v := ?va12) rfl (by kernel_rfl) (by kernel_rfl) (by kernel_rfl) (fun _ _ _ h => h) (Or.inl ⟨by rfl, ?hy12⟩) (by assumption) ?rs12
      case hy12 => ((intro w hSw); (try dsimp only at hSw); go_simp; (try with_reducible rfl))
      (try simp only [Act.put, List.setIfInBounds_toArray, List.set_cons_zero, List.set_cons_succ])
      refine wpAnyH_done (by kernel_rfl) ?_ _
      obtain ⟨hS1, hS2⟩ := hHeld
      go_wp2_with fail
      go_ret
      exact ⟨ret_int (by rw [← HR.out, HL.out]), Step.of⟩
  · have HL := hide (leafT_null (v := v) hk)
    rw [hk] at n0
    clear hk
    go_wp2_with (go_at_call 209; refine (ptruth_any _ _).mono ?_; rintro e w' ⟨rfl, rfl⟩)
    go_ret
    exact ⟨ret_int (by rw [← HR.out, HL.out]), ⟨below4 (fut w w1) (Nat.le_refl _) _ _ _ _⟩⟩
end Go.Proofs.YtnphokhehacfnaaGreatDoor

namespace Go.Proofs.YtnphokhehacfnaaGreatDoor
open Go.RowKit

theorem SchIn.fut {w w' : World} {s : Sch} {A : Option Addr} {cap : Nat} (h : SchIn w s A cap) [k : Fut w w'] : SchIn w' s A cap := ⟨h.hcap, h.hcapm, h.len, h.at_.fut, h.names⟩

theorem rkind_any (k : Int) (w : World) : Calls Tryz.prog 112 #[.int .i64 k] w fun e w' => e = .returned (.bool (kindB k)) ∧ w = w' := by
  go_enter Tryz.func112, Tryz.ntmps112
  go_wp2
  all_goals
    go_ret
    exact ⟨ret_bool (by simp [kindB]; try omega), rfl⟩

def fineU (x : Nat) : Bool := (decide (97 ≤ x) && decide (x ≤ 122) || decide (48 ≤ x) && decide (x ≤ 57)) || decide (x = 95)
theorem set_fineU : ∀ n, n < 256 → nameSet.contains (UInt8.ofNat n) = fineU n := by decide +kernel
theorem fineU_iff (c : UInt8) : nameSet.contains c = true ↔ (97 ≤ c.toNat ∧ c.toNat ≤ 122 ∨ 48 ≤ c.toNat ∧ c.toNat ≤ 57) ∨ c.toNat = 95 := by
  have h := set_fineU c.toNat c.toNat_lt
  rw [UInt8.ofNat_toNat] at h
  rw [h]
  simp [fineU]
theorem all_drop {α : Type} (p : α → Bool) (l : List α) (k : Nat) (h : k < l.length) : (l.drop k).all p = (p l[k] && (l.drop (k + 1)).all p) := by
  rw [List.drop_eq_getElem_cons h, List.all_cons]

set_option maxHeartbeats 1000000 in
theorem rname_any (s : ByteArray) (w : World) : Calls Tryz.prog 111 #[.string s] w fun e w' => e = .returned (.bool (nameB s)) ∧ w = w' := by
  by_cases h1 : 1 ≤ s.size
  · by_cases h2 : s.size ≤ 16
    · obtain ⟨R, hR⟩ : ∃ R, nameB s = R := ⟨_, rfl⟩
      have h0 : (s.data.toList.drop 0).all (nameSet.contains ·) = R := by rw [← hR]; simp [nameB, h1, h2]
      have HR := hide hR
      rw [HR.out]
      clear hR
      have H0 := hide h0; clear h0
      go_enter Tryz.func111, Tryz.ntmps111
      go_wp2
      go_loop [3, 4] (fun i _ => ∃ k : Nat, k ≤ s.size ∧ i = .int .i64 k ∧ (s.data.toList.drop k).all (nameSet.contains ·) = R) (fun i _ => s.size - (intOf i).toNat)
      case atStart => exact ⟨0, Nat.zero_le _, rfl, H0.out⟩
      case round =>
        obtain ⟨k, hk, rfl, hal⟩ := hrel
        have HA := hide hal; clear hal
        by_cases hlt : k < s.size
        · have hd := all_drop (nameSet.contains ·) s.data.toList k (by simpa using hlt)
          have HD := hide hd; clear hd
          have hfi := fineU_iff s[k]
          have HF := hide hfi; clear hfi
          have hs : (s.data.toList[k]'(by simpa using hlt)) = s[k] := rfl
          have HS := hide hs; clear hs
          cases hx : nameSet.contains s[k] with
          | true =>
            have HX := hide hx; clear hx
            have hy := HF.out.1 HX.out
            go_wp2
            all_goals first
              | (exfalso; omega)
              | (exfalso; simp at *; omega)
              | (go_round
                 case rel => exact ⟨k + 1, by omega, by go_num, by have := HA.out; rw [HD.out, HS.out, HX.out, Bool.true_and] at this; exact this⟩
                 case measure => simp [intOf]; omega)
          | false =>
            have HX := hide hx; clear hx
            have hy : ¬ ((97 ≤ s[k].toNat ∧ s[k].toNat ≤ 122 ∨ 48 ≤ s[k].toNat ∧ s[k].toNat ≤ 57) ∨ s[k].toNat = 95) := fun h => by have := HF.out.2 h; rw [HX.out] at this; cases this
            have hr : R = false := by have := HA.out; rw [HD.out, HS.out, HX.out, Bool.false_and] at this; exact this.symm
            have HRF := hide hr; clear hr
            go_wp2
            all_goals first
              | (exfalso; omega)
              | (exfalso; simp at *; omega)
              | (go_ret; exact ⟨ret_bool HRF.out.symm, rfl⟩)
        · obtain rfl : k = s.size := by omega
          go_wp2
          go_ret
          exact ⟨ret_bool (by rw [← HA.out, List.drop_of_length_le (by simp)]; rfl), rfl⟩
    · have h3 : 16 < s.size := by omega
      clear h2
      go_enter Tryz.func111, Tryz.ntmps111
      go_wp2
      go_ret
      exact ⟨ret_bool (by simp [nameB]; omega), rfl⟩
  · have h3 : s.size = 0 := by omega
    clear h1
    go_enter Tryz.func111, Tryz.ntmps111
    go_wp2
    go_ret
    exact ⟨ret_bool (by simp [nameB, h3]), rfl⟩
end Go.Proofs.YtnphokhehacfnaaGreatDoor

namespace Go.Proofs.YtnphokhehacfnaaGreatDoor
open Go.RowKit

def rheadOk (s : Sch) : Prop := 0 ≤ s.id ∧ s.id ≤ 2147483647 ∧ s.next ≤ 2147483647 ∧ 1 ≤ s.cols.length ∧ s.cols.length ≤ 12
instance (s : Sch) : Decidable (rheadOk s) := by unfold rheadOk; infer_instance
theorem mayB_r (s : Sch) : mayB s = (decide (rheadOk s) && okUpto s.next s.cols s.cols.length) := by
  unfold mayB
  cases ho : okUpto s.next s.cols s.cols.length with
  | false => simp
  | true =>
    simp only [Bool.and_true]
    rw [decide_eq_decide]
    unfold headOk rheadOk
    constructor
    · rintro ⟨a, b, c, d, e, f⟩; exact ⟨a, b, f, c, d⟩
    · rintro ⟨a, b, f, c, d⟩
      refine ⟨a, b, c, d, ?_, f⟩
      have h1 := okUpto_le (k := 1) c ho
      simp only [okUpto, Bool.true_and] at h1
      obtain ⟨x, hx⟩ : ∃ x, s.cols[0]? = some x := ⟨_, List.getElem?_eq_getElem c⟩
      simp only [okAt, hx, Bool.and_eq_true] at h1
      have := colOk_inv h1.1
      omega

set_option maxHeartbeats 400000 in
theorem rmay_head (s : Sch) (A : Option Addr) (cap : Nat) (w : World) (hB : s.cols.length ≤ 4611686018427387904) (hH : ¬ rheadOk s) :
    Calls Tryz.prog 57 #[s.val A cap] w fun e w' => e = .returned (.bool false) ∧ Step w w' := by
  obtain ⟨id, cols, next⟩ := s
  simp only [Sch.val] at hB ⊢
  have HH := hide hH; clear hH
  go_enter Tryz.func57, Tryz.ntmps57
  go_wp2
  all_goals first
    | (go_ret; exact ⟨rfl, Step.of⟩)
    | (exfalso; refine HH.out ?_; simp only [rheadOk]; omega)

set_option maxHeartbeats 2000000 in
theorem rmay_body {w0 : World} (s : Sch) (A : Option Addr) (cap : Nat) (w : World) (h : SchIn w0 s A cap) [hf : Fut w0 w] (hH : rheadOk s) :
    Calls Tryz.prog 57 #[s.val A cap] w fun e w' => e = .returned (.bool (okUpto s.next s.cols s.cols.length)) ∧ Step w w' := by
  have hat := h.at_
  have z0 := hf.below.size
  obtain ⟨id, cols, next⟩ := s
  simp only [Sch.val, rheadOk] at hat hH ⊢
  obtain ⟨g1, g2, g3, g4, g5⟩ := hH
  have HQ := hide (Blk.new w [.int .i64 id, .slice A cols.length cap, .int .i64 next] 24)
  go_enter Tryz.func57, Tryz.ntmps57
  go_wp2
  go_loopw [3, 4, 5] (fun i _ _ wr => ∃ k : Nat, k ≤ cols.length ∧ i = .int .i64 k ∧ okUpto next cols k = true ∧ Step (w.alloc (.cells #[.int .i64 id, .slice A cols.length cap, .int .i64 next] 24)) wr) (fun i _ _ _ => cols.length - (intOf i).toNat)
  case atStart => exact ⟨0, Nat.zero_le _, rfl, rfl, Step.of⟩
  case round =>
    obtain ⟨wo, rfl⟩ : ∃ wo : World, wo = wr := ⟨_, rfl⟩
    obtain ⟨k, hk, rfl, hok, hst⟩ := hrel
    have HO := hide hok; clear hok
    have hs1 := hst.size
    simp only [hsz] at hs1
    have hs2 : w.heap.size < wo.heap.size := by omega
    obtain ⟨q0, q1, q2⟩ := At.z3 (HQ.out.fut (w' := wo)).at0
    by_cases hlt : k < cols.length
    · obtain ⟨b, off, rfl, hb, hc⟩ := hat.elem (w' := wo) inferInstance (k := k) (by simpa using hlt)
      obtain ⟨c, hcc⟩ : ∃ c, cols[k]? = some c := ⟨_, List.getElem?_eq_getElem hlt⟩
      have HC := hide hcc
      obtain ⟨h1, h2, h3⟩ := At.l3 (hc k c.cells (by simp [hcc]))
      have hs3 : b < wo.heap.size := by omega
      clear hcc hc
      have HA := hide (Blk.new wo [.int .i64 c.id, .string c.name, .int .i64 c.kind] 90)
      cases hco : colOk next c with
      | false =>
        have Hco := hide hco; clear hco
        obtain ⟨E3, E4⟩ : Hid (nameB c.name = nameB c.name) ∧ Hid (kindB c.kind = kindB c.kind) := ⟨rfl, rfl⟩
        by_cases e1 : 1 ≤ c.id
        · by_cases e2 : c.id < next
          · cases e3 : nameB c.name with
            | true =>
              cases e4 : kindB c.kind with
              | true => have a5 := Hco.out; rw [colOk_yes e1 e2 e3 e4] at a5; cases a5
              | false =>
                clear E3 E4
                have E3 := hide e3; clear e3
                have E4 := hide e4; clear e4
                go_wp2_with (first
                  | (go_at_call 111; refine (rname_any _ _).mono ?_; rintro e w1 ⟨rfl, rfl⟩; rw [E3.out])
                  | (go_at_call 112; refine (rkind_any _ _).mono ?_; rintro e w1 ⟨rfl, rfl⟩; rw [E4.out]))
                go_ret
                exact ⟨ret_bool (okUpto_bad hlt (okAt_of HC.out Hco.out)).symm, Step.of⟩
            | false =>
              clear E3
              have E3 := hide e3; clear e3
              go_wp2_with (first
                | (go_at_call 111; refine (rname_any _ _).mono ?_; rintro e w1 ⟨rfl, rfl⟩; rw [E3.out])
                | (go_at_call 112; refine (rkind_any _ _).mono ?_; rintro e w1 ⟨rfl, rfl⟩; rw [E4.out]))
              go_ret
              exact ⟨ret_bool (okUpto_bad hlt (okAt_of HC.out Hco.out)).symm, Step.of⟩
          · have e5 : next ≤ c.id := by omega
            clear e2
            go_wp2_with (first
              | (go_at_call 111; refine (rname_any _ _).mono ?_; rintro e w1 ⟨rfl, rfl⟩; rw [E3.out])
              | (go_at_call 112; refine (rkind_any _ _).mono ?_; rintro e w1 ⟨rfl, rfl⟩; rw [E4.out]))
            go_ret
            exact ⟨ret_bool (okUpto_bad hlt (okAt_of HC.out Hco.out)).symm, Step.of⟩
        · have e5 : c.id < 1 := by omega
          clear e1
          go_wp2_with (first
            | (go_at_call 111; refine (rname_any _ _).mono ?_; rintro e w1 ⟨rfl, rfl⟩; rw [E3.out])
            | (go_at_call 112; refine (rkind_any _ _).mono ?_; rintro e w1 ⟨rfl, rfl⟩; rw [E4.out]))
          go_ret
          exact ⟨ret_bool (okUpto_bad hlt (okAt_of HC.out Hco.out)).symm, Step.of⟩
      | true =>
        have Hco := hide hco
        obtain ⟨e1, e2, e3, e4⟩ := colOk_inv hco
        clear hco
        have E3 := hide e3; clear e3
        have E4 := hide e4; clear e4
        go_wp2_with (first
          | (go_at_call 111; refine (rname_any _ _).mono ?_; rintro e w1 ⟨rfl, rfl⟩; rw [E3.out])
          | (go_at_call 112; refine (rkind_any _ _).mono ?_; rintro e w1 ⟨rfl, rfl⟩; rw [E4.out]))
        clear h1 h2 h3 q0 q1 q2
        go_loopw [5] (fun i wi => ∃ j : Nat, j ≤ k ∧ i = .int .i64 j ∧ (cols.take j).any (clash c) = false ∧ Step (wo.alloc (.cells #[.int .i64 c.id, .string c.name, .int .i64 c.kind] 90)) wi) (fun i _ => k - (intOf i).toNat)
        case atStart => exact ⟨0, Nat.zero_le _, rfl, rfl, Step.of⟩
        case round =>
          obtain ⟨j, hj, rfl, hcl, hsi⟩ := hrel
          have HCL := hide hcl; clear hcl
          obtain ⟨q0, q1, q2⟩ := At.z3 (HQ.out.fut (w' := wr)).at0
          obtain ⟨p0, p1, _⟩ := At.z3 (HA.out.fut (w' := wr)).at0
          by_cases hjk : j < k
          · obtain ⟨d, hdd⟩ : ∃ d, cols[j]? = some d := ⟨_, List.getElem?_eq_getElem (by omega)⟩
            have HD := hide hdd
            obtain ⟨b', off', hA', _, hcd⟩ := hat.elem (w' := wr) inferInstance (k := j) (by simp; omega)
            obtain ⟨rfl, rfl⟩ : b = b' ∧ off = off' := by simpa using hA'
            obtain ⟨h1, h2, h3⟩ := At.l3 (hcd j d.cells (by simp [hdd]))
            clear hdd hcd hA'
            have hget : cols[j]'(by omega) = d := by
              have := HD.out
              rw [List.getElem?_eq_getElem (by omega)] at this
              exact Option.some.inj this
            have HG := hide hget; clear hget
            have hjl : j < cols.length := by omega
            cases hd1 : (d.id == c.id) with
            | true =>
              go_wp2
              go_quiet (fail)
              go_wp2
              go_ret
              exact ⟨ret_bool (okUpto_bad hlt (okAt_clash HC.out (any_take_yes _ _ j k hjk (by omega) (by rw [HG.out]; exact clash_id (by simpa using hd1))))).symm, Step.of⟩
            | false =>
              cases hd2 : (d.name.toList == c.name.toList) with
              | true =>
                go_wp2
                go_quiet (fail)
                go_wp2
                go_ret
                exact ⟨ret_bool (okUpto_bad hlt (okAt_clash HC.out (any_take_yes _ _ j k hjk (by omega) (by rw [HG.out]; exact clash_or (.inr hd2))))).symm, Step.of⟩
              | false =>
                go_wp2
                go_quiet (fail)
                go_wp2
                go_roundw
                case rel =>
                  exact ⟨j + 1, by omega, by go_num, by rw [any_take_succ _ _ _ (by omega), HCL.out, HG.out, clash_no ⟨hd1, hd2⟩]; rfl, Step.of⟩
                case measure => simp [intOf]; omega
          · obtain rfl : j = k := by omega
            go_wp2
            go_roundw
            case rel =>
              refine ⟨j + 1, by omega, by go_num, ?_, Step.of⟩
              simp only [okUpto, HO.out, Bool.true_and]
              exact okAt_yes HC.out Hco.out HCL.out
            case measure => simp [intOf]; omega
    · go_wp2_with fail
      go_ret
      obtain rfl : k = cols.length := by omega
      exact ⟨ret_bool HO.out.symm, Step.of⟩
theorem rmay_any {w0 : World} (s : Sch) (A : Option Addr) (cap : Nat) (w : World) (h : SchIn w0 s A cap) [hf : Fut w0 w] :
    Calls Tryz.prog 57 #[s.val A cap] w fun e w' => e = .returned (.bool (mayB s)) ∧ Step w w' := by
  rw [mayB_r]
  by_cases hH : rheadOk s
  · rw [decide_eq_true hH, Bool.true_and]
    exact rmay_body s A cap w h hH
  · rw [decide_eq_false hH, Bool.false_and]
    exact rmay_head s A cap w (by have := h.len; omega) hH
end Go.Proofs.YtnphokhehacfnaaGreatDoor

namespace Go.Proofs.YtnphokhehacfnaaGreatDoor
open Go.RowKit

/-- What the document's NewSchema answers. -/
def rnewR (ns : List ByteArray) (ks : List Int) : Sch × Int := if ns.length ≠ ks.length then (Sch.zero, 1200) else nextR ⟨0, newCols ns ks 0, ns.length + 1⟩
set_option maxRecDepth 10000 in
set_option maxHeartbeats 4000000 in
theorem rnew_any (ns : List ByteArray) (ks : List Int) (An Ak : Option Addr) (cn ck : Nat) {wn wk : World} (w : World) (hn : SlAt wn wn.heap.size 1 An (strCells ns)) (hk : SlAt wk wk.heap.size 1 Ak (intCells ks)) [fn : Fut wn w] [fk : Fut wk w]
    (hns : (ns.length + 2) * 32 ≤ 140737488355328) (hnm : ∀ n ∈ ns, n.size ≤ 9223372036854775807) :
    Calls Tryz.prog 73 #[.slice An ns.length cn, .slice Ak ks.length ck] w (SchRes w (rnewR ns ks)) := by
  by_cases hl : ns.length = ks.length
  · have HL := hide hl
    have HKL := hide hl.symm
    clear hl
    rw [HKL.out]
    have HLN := hide (newCols_length ns ks 0 HL.out)
    go_enter Tryz.func73, Tryz.ntmps73
    go_wp2
    have HF1 := hide (((Blks.nil_ w).push 24 [.int .i64 0, .slice none 0 0, .int .i64 0]).push 24 [.int .i64 0, .slice none 0 0, .int .i64 (ns.length + 1)])
    simp only [hsz] at HF1
    go_loopw [7] (fun i wr => ∃ (k : Nat) (A' : Option Addr) (cap' : Nat), k ≤ ns.length ∧ i = .int .i64 k ∧ Blk wr (w.heap.size + 1) 24 [.int .i64 0, .slice A' k cap', .int .i64 (ns.length + 1)] ∧ k ≤ cap' ∧ cap' ≤ maxLen ∧
        Own wr (w.heap.size + 2) 90 3 (.slice A' k cap') (((newCols ns ks 0).take k).map Col.cells) ∧ Blk wr w.heap.size 24 [.int .i64 0, .slice none 0 0, .int .i64 0] ∧ Step w wr ∧ w.heap.size + 2 ≤ wr.heap.size)
      (fun i _ => ns.length - (intOf i).toNat)
    case atStart =>
      obtain ⟨b1, b0, _⟩ := HF1.out
      exact ⟨0, none, 0, Nat.zero_le _, rfl, b1, Nat.le_refl _, by simp [maxLen], by simpa using Own.nil_ _ _ _ _, b0, Step.of, by simp⟩
    case round =>
      obtain ⟨k, A', cap', hk1, rfl, hp, hc1, hc2, hown, hr, hst, hz⟩ := hrel
      have HR := hide hr; clear hr
      have HBW := hide hst.below
      by_cases hlt : k < ns.length
      · obtain ⟨nm, hnm1⟩ : ∃ nm, ns[k]? = some nm := ⟨_, List.getElem?_eq_getElem hlt⟩
        obtain ⟨kd, hkd1⟩ : ∃ kd, ks[k]? = some kd := ⟨_, List.getElem?_eq_getElem (by have := HKL.out; omega)⟩
        have HC := hide (newCols_get ns ks 0 k nm kd hnm1 hkd1)
        obtain ⟨bn, on, rfl, hbn, hcn⟩ := hn.elem (w' := wr) inferInstance (k := k) (by simp [strCells]; omega)
        have n1 := At.l1 (hcn k [.string nm] (by simp [strCells, hnm1]))
        obtain ⟨bk, ok, rfl, hbk, hck⟩ := hk.elem (w' := wr) inferInstance (k := k) (by have := HKL.out; simp [intCells]; omega)
        have n2 := At.l1 (hck k [.int .i64 kd] (by simp [intCells, hkd1]))
        simp only [Nat.mul_one] at n1 n2
        clear hcn hck hnm1 hkd1
        have hp' := hp
        obtain ⟨p0, p1, p2⟩ := At.z3 hp'.at0
        have f1 := hp'.free
        have l1 := hp.lt
        have HP := hide hp; clear hp hp'
        have HOWN := hide hown; clear hown
        have hgn := fn.below.size; have hgk := fk.below.size
        obtain ⟨o, ho⟩ : ∃ o : Obj, o = .cells #[.int .i64 ((k : Int) + 1), .string nm, .int .i64 kd] 90 := ⟨_, rfl⟩
        have HO : Hid (Own (wr.alloc o).drew (w.heap.size + 2) 90 3 (.slice A' k cap') (((newCols ns ks 0).take k).map Col.cells)) := (HOWN.out.alloc o).drew
        have HS : Hid (SlAt (wr.alloc o).drew (wr.alloc o).drew.heap.size 3 (some ⟨wr.heap.size, 0, none⟩) [[.int .i64 ((k : Int) + 1), .string nm, .int .i64 kd]]) := by
          rw [ho]; exact SlAt.one wr.drew 3 [.int .i64 ((k : Int) + 1), .string nm, .int .i64 kd] 90
        have HFt : Hid (Fit 3 [[.int .i64 ((k : Int) + 1), .string nm, .int .i64 kd]]) := cols_fit [⟨(k : Int) + 1, nm, kd⟩]
        have HPo : Hid (Blk (wr.alloc o).drew (w.heap.size + 1) 24 [.int .i64 0, .slice A' k cap', .int .i64 (ns.length + 1)]) := (HP.out.alloc o).drew
        have HLe : Hid (((((newCols ns ks 0).take k).map Col.cells).length + [[Value.int .i64 ((k : Int) + 1), .string nm, .int .i64 kd]].length) * 32 ≤ 140737488355328) := by
          show _ ≤ _; simp [HLN.out]; omega
        have HBs : Hid (w.heap.size + 2 ≤ (wr.alloc o).drew.heap.size) := by show _ ≤ _; simp; omega
        have HN : Hid ((((newCols ns ks 0).take k).map Col.cells).length + [[Value.int .i64 ((k : Int) + 1), .string nm, .int .i64 kd]].length = k + 1) := by show _ = _; simp [HLN.out]; omega
        subst ho
        have hwr : IntKind.i64.wrap ((k : Int) + 1) = (k : Int) + 1 := by rw [IntKind.wrap_i64]; omega
        go_wp2
        go_region_law (refine step_append_sl rfl (.tmp 25) (.tmp 37) 22 rfl eiCol (v := .slice A' k cap') ?hs1 HO.out (cols_fit _) (A := some ⟨wr.heap.size, 0, none⟩) (c := 1) (n := 1) ?hs2 rfl HS.out HFt.out HLe.out HBs.out (N := k + 1) HN.out ?_; (case hs1 => simp [Act.eval]); (case hs2 => simp [Act.eval]); intro A1 cap1 w1 hq1 hq2 hown1 hgr1 hbel1; have hp1 := HPo.out.grown hgr1 (HO.out.ne_ HPo.out (by decide)); obtain ⟨c0, c1, c2⟩ := At.z3 hp1.at0; have f1' := hp1.free 1; have H1 := hide hp1; have H2 := hide hgr1; have H3 := hide hown1; have H4 := hide hbel1; clear hp1 hgr1 hbel1 hown1)
        all_goals
          clear n1 n2 p0 p1 p2 f1 c0 c1 c2 f1' hwr
          go_wp2
          go_roundw
          case rel =>
            have hb1 : Below (w.heap.size + 2) wr w1 := (Below.drew ((Below.refl _ _).alloc hz _)).trans H4.out
            refine ⟨k + 1, A1, cap1, by omega, by go_num, by simpa using H1.out.set_ 1 (.slice A1 (k + 1) cap1), hq1, hq2, ?_, ?_, ⟨?_⟩, ?_⟩
            · rw [List.take_add_one, HC.out, List.map_append]
              have := H3.out.set_other H1.out (by decide) 1 (.slice A1 (k + 1) cap1)
              simpa [Col.cells] using this
            · exact (HR.out.below hb1 (by omega)).far (by simp) _
            · exact (HBW.out.trans (hb1.mono (by omega))).setCell (by simp) _
            · have := hb1.size
              simp [World.setCell]
              omega
          case measure => simp [intOf]; omega
      · obtain rfl : k = ns.length := by omega
        rw [List.take_of_length_le (by rw [HLN.out]; exact Nat.le_refl _)] at hown
        have hsin : SchIn wr ⟨0, newCols ns ks 0, ns.length + 1⟩ A' cap' := ⟨by simp only [HLN.out]; exact hc1, by simpa [maxLen] using hc2, by simp only [HLN.out]; omega, hown.sl (cols_fit _).len, fun c hc => hnm _ (newCols_mem ns ks 0 c hc)⟩
        have hc := rmay_any ⟨0, newCols ns ks 0, ns.length + 1⟩ A' cap' wr hsin
        unfold Sch.val at hc
        simp only [HLN.out] at hc
        have HM := hide hc
        obtain ⟨p0, p1, p2⟩ := At.z3 hp.at0
        have l1 := hp.lt
        have HP := hide hp; clear hp hc hsin
        have HOWN := hide hown; clear hown
        cases hmay : mayB ⟨0, newCols ns ks 0, ns.length + 1⟩ with
        | true =>
          have HMY := hide hmay; clear hmay
          go_wp2_with (refine HM.out.mono ?_; rintro e w4 ⟨rfl, hs4⟩; rw [HMY.out]; have hb4 := hs4.below; obtain ⟨q0, q1, q2⟩ := At.z3 (HP.out.below hb4 (by omega)).at0; obtain ⟨r0, r1, r2⟩ := At.z3 (HR.out.below hb4 (by omega)).at0; have g0 := (HR.out.below hb4 (by omega)).free; have s5 := hb4.size; have H4 := hide hb4; clear hb4)
          have hr4 := HR.out.below H4.out (by omega)
          obtain ⟨t0, t1, t2⟩ := At.z3 (store3 hr4 (.int .i64 0) (.slice A' ns.length cap') (.int .i64 (ns.length + 1)))
          refine bodyPost_ret (v := .tuple #[.agg #[.int .i64 0, .slice A' ns.length cap', .int .i64 (ns.length + 1)], .int .i64 0]) (by simp [results, Tryz.results73, go_sem, t0, t1, t2]) rfl ?_
          rw [rnewR, if_neg (by have := HL.out; omega), nextR, if_pos HMY.out]
          have := SchRes.store (w := w) (w0 := w) (w' := w4) (s := ⟨0, newCols ns ks 0, ns.length + 1⟩) (n := 0) (A := A') (cap := cap') (by simp only [HLN.out]; exact hc1) hc2
            (by simp only [HLN.out]; exact (HOWN.out.keep H4.out (Nat.le_refl _)).more (by omega)) (HBW.out.trans (H4.out.mono (by omega))) (by omega) hr4 (Nat.le_refl _)
          simpa only [Sch.val, HLN.out] using this
        | false =>
          have HMY := hide hmay; clear hmay
          go_wp2_with (refine HM.out.mono ?_; rintro e w4 ⟨rfl, hs4⟩; rw [HMY.out]; have hb4 := hs4.below; obtain ⟨q0, q1, q2⟩ := At.z3 (HP.out.below hb4 (by omega)).at0; obtain ⟨r0, r1, r2⟩ := At.z3 (HR.out.below hb4 (by omega)).at0; have g0 := (HR.out.below hb4 (by omega)).free; have s5 := hb4.size; have H4 := hide hb4; clear hb4)
          have hr4 := HR.out.below H4.out (by omega)
          obtain ⟨t0, t1, t2⟩ := At.z3 (store3 hr4 (.int .i64 0) (.slice none 0 0) (.int .i64 0))
          refine bodyPost_ret (v := .tuple #[.agg #[.int .i64 0, .slice none 0 0, .int .i64 0], .int .i64 1200]) (by simp [results, Tryz.results73, go_sem, t0, t1, t2]) rfl ?_
          rw [rnewR, if_neg (by have := HL.out; omega), nextR, if_neg (by rw [HMY.out]; simp)]
          exact SchRes.err (below3 (HBW.out.trans (H4.out.mono (by omega))) (Nat.le_refl _) _ _ _)
  · have hb : ((ns.length : Int) != (ks.length : Int)) = true := by simp; omega
    have HL := hide hl
    clear hl
    go_enter Tryz.func73, Tryz.ntmps73
    go_wp2
    refine bodyPost_ret (v := .tuple #[.agg #[.int .i64 0, .slice none 0 0, .int .i64 0], .int .i64 1200]) (by simp [results, Tryz.results73, go_sem]) rfl ?_
    rw [rnewR, if_pos HL.out]
    exact SchRes.err ((below_a1 w _))
end Go.Proofs.YtnphokhehacfnaaGreatDoor

namespace Go.Proofs.YtnphokhehacfnaaGreatDoor
open Go.RowKit

/-- A schema whose columns are few and have short names. -/
def Fine (s : Sch) : Prop := s.cols.length ≤ 12 ∧ ∀ c ∈ s.cols, c.name.size ≤ 16
/-- The call answers the schema and the error: read, and the columns' memory is the call's own. -/
def SR (w : World) (r : Sch × Int) (e : Ending) (w' : World) : Prop :=
  ∃ (A : Option Addr) (cap : Nat), e = .returned (.tuple #[.agg #[.int .i64 r.1.id, .slice A r.1.cols.length cap, .int .i64 r.1.next], .int .i64 r.2]) ∧ SchIn w' r.1 A cap ∧
    Own w' w.heap.size 90 3 (.slice A r.1.cols.length cap) (r.1.cols.map Col.cells) ∧ Step w w'
variable {w0 : World}
theorem pmay (s : Sch) (A : Option Addr) (cap : Nat) (w : World) (h : SchIn w0 s A cap) [Fut w0 w] :
    Calls Tryz.prog 54 #[s.val A cap] w fun e w' => e = .returned (.bool (mayB s)) ∧ Step w w' := h.fut.may.mono fun _ _ h => ⟨h.1, ⟨h.2⟩⟩
theorem pfind (s : Sch) (A : Option Addr) (cap : Nat) (nm : ByteArray) (w : World) (h : SchIn w0 s A cap) [Fut w0 w] :
    Calls Tryz.prog 125 #[s.val A cap, .string nm] w fun e w' => e = .returned (.int .i64 (idx (named nm) s.cols)) ∧ Step w w' := (h.fut.find nm).mono fun _ _ h => ⟨h.1, ⟨h.2⟩⟩
end Go.Proofs.YtnphokhehacfnaaGreatDoor

namespace Go.Proofs.YtnphokhehacfnaaGreatDoor
open Go.RowKit

/-- A predicate that is handed in. -/
structure PrIn (w : World) (ns : List Nod) (A : Option Addr) (cap : Nat) : Prop where
  hcap : ns.length ≤ cap
  hcapm : cap ≤ 9223372036854775807
  len : ns.length ≤ 1599289640400
  at_ : SlAt w w.heap.size 9 A (ns.map Nod.cells)
  strs : ∀ n ∈ ns, n.col.size ≤ 9223372036854775807 ∧ n.v.s.size ≤ 9223372036854775807
theorem PrIn.fut {w w' : World} {ns : List Nod} {A : Option Addr} {cap : Nat} (h : PrIn w ns A cap) [k : Fut w w'] : PrIn w' ns A cap := ⟨h.hcap, h.hcapm, h.len, h.at_.fut, h.strs⟩
/-- Node k, in whatever later world. -/
theorem PrIn.node {w w' : World} {ns : List Nod} {A : Option Addr} {cap : Nat} (h : PrIn w ns A cap) (hf : Fut w w') {k : Nat} (hk : k < ns.length) :
    ∃ b off, A = some ⟨b, off, none⟩ ∧ b < w.heap.size ∧ ∃ n, ns[k]? = some n ∧ At w' b (off + k * 9) n.cells := by
  obtain ⟨b, off, e, hb, hc⟩ := h.at_.elem hf (k := k) (by simpa using hk)
  exact ⟨b, off, e, hb, ns[k], List.getElem?_eq_getElem hk, hc k _ (by simp [hk])⟩

theorem ahead_any (k : Int) (m g : Nat) (w : World) (h : w.cell? ⟨g, 0, none⟩ = some (.int .i64 m)) (_hg : g < w.heap.size) :
    Calls Tryz.prog 180 #[.int .i64 k, .pointer (some ⟨g, 0, none⟩)] w fun e w' => e = .returned (.bool (ahead k m)) ∧ w = w' := by
  by_cases h0 : 0 ≤ k
  · by_cases h1 : k < (m : Int)
    · have HX : Hid (ahead k m = true) := by show _ = _; simp [ahead, h0, h1]
      go_enter Tryz.func180, Tryz.ntmps180
      go_wp2
      go_ret
      exact ⟨ret_bool HX.out.symm, rfl⟩
    · have HX : Hid (ahead k m = false) := by show _ = _; simp [ahead, h0, h1]
      have h2 : (m : Int) ≤ k := by omega
      clear h1
      go_enter Tryz.func180, Tryz.ntmps180
      go_wp2
      go_ret
      exact ⟨ret_bool (by rw [HX.out, decide_eq_false_iff_not]; omega), rfl⟩
  · have HX : Hid (ahead k m = false) := by show _ = _; simp [ahead, h0]
    have h2 : k < 0 := by omega
    clear h0
    go_enter Tryz.func180, Tryz.ntmps180
    go_wp2
    go_ret
    exact ⟨ret_bool HX.out.symm, rfl⟩

set_option maxHeartbeats 4000000 in
theorem pmayN_any {w0 : World} (b o : Nat) (n : Nod) (m : Nat) (w : World) (hn : At w0 b o n.cells) (hb : b < w0.heap.size) [hf : Fut w0 w] :
    Calls Tryz.prog 157 #[.pointer (some ⟨b, o, none⟩), .int .i64 m] w fun e w' => e = .returned (.bool (nodB n m)) ∧ Step w w' := by
  have hz := hf.below.size
  have hlt : b < w.heap.size := by omega
  have hn' := hn.below (fut w0 w) hb
  obtain ⟨n0, n1, n2, n3, n4, n5, n6, n7, n8⟩ := At.l9 hn'
  obtain ⟨R, hR⟩ : ∃ R, nodB n m = R := ⟨_, rfl⟩
  have HR := hide hR
  rw [hR]
  clear hR hn hn'
  have AH := hide (fun k => ahead_any k m w.heap.size (w.alloc (.cells #[.int .i64 m] 3)) (At.z1 (Blk.new w [.int .i64 m] _).at0) (by simp))
  by_cases k0 : n.kind = 0
  · rw [k0] at n0
    have HX := hide k0; clear k0
    go_enter Tryz.func157, Tryz.ntmps157
    go_wp2_with (first | (go_at_call 104; refine (vecKind_any _ _).mono ?_; rintro e w' ⟨rfl, rfl⟩; (try rw [K3.out])) | (go_at_call 180; refine (AH.out _).mono ?_; rintro e w' ⟨rfl, rfl⟩; (first | rw [K1.out] | rw [K2.out] | skip)))
    go_ret
    exact ⟨ret_bool (by rw [← HR.out]; simp [nodB, HX.out]), Step.of⟩
  have e0 : (n.kind == 0) = false := by simpa using k0
  by_cases k2 : n.kind = 2
  · rw [k2] at n0
    have HX := hide k2; clear k2 k0 e0
    go_enter Tryz.func157, Tryz.ntmps157
    go_wp2_with (first | (go_at_call 104; refine (vecKind_any _ _).mono ?_; rintro e w' ⟨rfl, rfl⟩; (try rw [K3.out])) | (go_at_call 180; refine (AH.out _).mono ?_; rintro e w' ⟨rfl, rfl⟩; (first | rw [K1.out] | rw [K2.out] | skip)))
    go_ret
    exact ⟨ret_bool (by rw [← HR.out]; simp [nodB, HX.out]), Step.of⟩
  have e2 : (n.kind == 2) = false := by simpa using k2
  by_cases k1 : n.kind = 1
  · rw [k1] at n0
    have HX : Hid (nodB n m = (decide (0 ≤ n.cmp) && decide (n.cmp ≤ 5) && kindB n.v.kind && (n.v.kind != 3 || decide (n.v.s.size ≤ 64)))) := by show _ = _; simp [nodB, k1]
    clear k0 k1 k2 e0 e2
    by_cases c1 : 0 ≤ n.cmp
    · by_cases c2 : n.cmp ≤ 5
      · cases c3 : kindB n.v.kind with
        | false =>
          have K3 := hide c3
          clear c3
          go_enter Tryz.func157, Tryz.ntmps157
          go_wp2_with (first | (go_at_call 104; refine (vecKind_any _ _).mono ?_; rintro e w' ⟨rfl, rfl⟩; (try rw [K3.out])) | (go_at_call 180; refine (AH.out _).mono ?_; rintro e w' ⟨rfl, rfl⟩; (first | rw [K1.out] | rw [K2.out] | skip)))
          go_ret
          exact ⟨ret_bool (by rw [← HR.out]; rw [HX.out, K3.out]; simp), Step.of⟩
        | true =>
          have K3 := hide c3
          clear c3
          by_cases c4 : n.v.kind = 3
          · have c4' : (n.v.kind != 3) = false := by simpa using c4
            have C4 := hide c4'
            clear c4
            by_cases c5 : n.v.s.size ≤ 64
            · have c5' : (n.v.s.size : Int) ≤ 64 := by omega
              have C5 := hide c5
              go_enter Tryz.func157, Tryz.ntmps157
              go_wp2_with (first | (go_at_call 104; refine (vecKind_any _ _).mono ?_; rintro e w' ⟨rfl, rfl⟩; (try rw [K3.out])) | (go_at_call 180; refine (AH.out _).mono ?_; rintro e w' ⟨rfl, rfl⟩; (first | rw [K1.out] | rw [K2.out] | skip)))
              go_ret
              exact ⟨ret_bool (by rw [← HR.out]; rw [HX.out, K3.out, C4.out]; simp [c1, c2, C5.out]), Step.of⟩
            · have c5' : (64 : Int) < (n.v.s.size : Int) := by omega
              have C5 : Hid (decide (n.v.s.size ≤ 64) = false) := by show _ = _; simp; omega
              clear c5
              go_enter Tryz.func157, Tryz.ntmps157
              go_wp2_with (first | (go_at_call 104; refine (vecKind_any _ _).mono ?_; rintro e w' ⟨rfl, rfl⟩; (try rw [K3.out])) | (go_at_call 180; refine (AH.out _).mono ?_; rintro e w' ⟨rfl, rfl⟩; (first | rw [K1.out] | rw [K2.out] | skip)))
              go_ret
              exact ⟨ret_bool (by rw [← HR.out]; rw [HX.out, K3.out, C4.out, C5.out]; first | (simp; done) | (simp; omega)), Step.of⟩
          · have c4' : (n.v.kind != 3) = true := by simpa using c4
            have C4 := hide c4'
            clear c4
            go_enter Tryz.func157, Tryz.ntmps157
            go_wp2_with (first | (go_at_call 104; refine (vecKind_any _ _).mono ?_; rintro e w' ⟨rfl, rfl⟩; (try rw [K3.out])) | (go_at_call 180; refine (AH.out _).mono ?_; rintro e w' ⟨rfl, rfl⟩; (first | rw [K1.out] | rw [K2.out] | skip)))
            go_ret
            exact ⟨ret_bool (by rw [← HR.out]; rw [HX.out, K3.out, C4.out]; simp [c1, c2]), Step.of⟩
      · have c2' : 5 < n.cmp := by omega
        clear c2
        go_enter Tryz.func157, Tryz.ntmps157
        go_wp2_with (first | (go_at_call 104; refine (vecKind_any _ _).mono ?_; rintro e w' ⟨rfl, rfl⟩; (try rw [K3.out])) | (go_at_call 180; refine (AH.out _).mono ?_; rintro e w' ⟨rfl, rfl⟩; (first | rw [K1.out] | rw [K2.out] | skip)))
        go_ret
        exact ⟨ret_bool (by rw [← HR.out]; rw [HX.out]; simp; omega), Step.of⟩
    · have c1' : n.cmp < 0 := by omega
      clear c1
      go_enter Tryz.func157, Tryz.ntmps157
      go_wp2_with (first | (go_at_call 104; refine (vecKind_any _ _).mono ?_; rintro e w' ⟨rfl, rfl⟩; (try rw [K3.out])) | (go_at_call 180; refine (AH.out _).mono ?_; rintro e w' ⟨rfl, rfl⟩; (first | rw [K1.out] | rw [K2.out] | skip)))
      go_ret
      exact ⟨ret_bool (by rw [← HR.out]; rw [HX.out]; simp; omega), Step.of⟩
  have e1 : (n.kind == 1) = false := by simpa using k1
  by_cases k3 : n.kind = 3
  · rw [k3] at n0
    have HX : Hid (nodB n m = ahead n.l m) := by show _ = _; simp [nodB, k3]
    clear k0 k1 k2 k3 e0 e1 e2
    go_enter Tryz.func157, Tryz.ntmps157
    go_wp2_with (first | (go_at_call 104; refine (vecKind_any _ _).mono ?_; rintro e w' ⟨rfl, rfl⟩; (try rw [K3.out])) | (go_at_call 180; refine (AH.out _).mono ?_; rintro e w' ⟨rfl, rfl⟩; (first | rw [K1.out] | rw [K2.out] | skip)))
    go_ret
    exact ⟨ret_bool (by rw [← HR.out]; exact HX.out.symm), Step.of⟩
  have e3 : (n.kind == 3) = false := by simpa using k3
  by_cases k4 : n.kind = 4
  · rw [k4] at n0
    have HX : Hid (nodB n m = (ahead n.l m && ahead n.r m)) := by show _ = _; simp [nodB, k4]
    clear k0 k1 k2 k3 e0 e1 e2 e3 k4
    cases c1 : ahead n.l m with
    | false =>
      have K1 := hide c1
      clear c1
      go_enter Tryz.func157, Tryz.ntmps157
      go_wp2_with (first | (go_at_call 104; refine (vecKind_any _ _).mono ?_; rintro e w' ⟨rfl, rfl⟩; (try rw [K3.out])) | (go_at_call 180; refine (AH.out _).mono ?_; rintro e w' ⟨rfl, rfl⟩; (first | rw [K1.out] | rw [K2.out] | skip)))
      go_ret
      exact ⟨ret_bool (by rw [← HR.out]; rw [HX.out, K1.out]; rfl), Step.of⟩
    | true =>
      have K1 := hide c1
      clear c1
      go_enter Tryz.func157, Tryz.ntmps157
      go_wp2_with (first | (go_at_call 104; refine (vecKind_any _ _).mono ?_; rintro e w' ⟨rfl, rfl⟩; (try rw [K3.out])) | (go_at_call 180; refine (AH.out _).mono ?_; rintro e w' ⟨rfl, rfl⟩; (first | rw [K1.out] | rw [K2.out] | skip)))
      go_ret
      exact ⟨ret_bool (by rw [← HR.out]; rw [HX.out, K1.out]; simp), Step.of⟩
  have e4 : (n.kind == 4) = false := by simpa using k4
  by_cases k5 : n.kind = 5
  · rw [k5] at n0
    have HX : Hid (nodB n m = (ahead n.l m && ahead n.r m)) := by show _ = _; simp [nodB, k5]
    clear k0 k1 k2 k3 e0 e1 e2 e3 k4 e4 k5
    cases c1 : ahead n.l m with
    | false =>
      have K1 := hide c1
      clear c1
      go_enter Tryz.func157, Tryz.ntmps157
      go_wp2_with (first | (go_at_call 104; refine (vecKind_any _ _).mono ?_; rintro e w' ⟨rfl, rfl⟩; (try rw [K3.out])) | (go_at_call 180; refine (AH.out _).mono ?_; rintro e w' ⟨rfl, rfl⟩; (first | rw [K1.out] | rw [K2.out] | skip)))
      go_ret
      exact ⟨ret_bool (by rw [← HR.out]; rw [HX.out, K1.out]; rfl), Step.of⟩
    | true =>
      have K1 := hide c1
      clear c1
      go_enter Tryz.func157, Tryz.ntmps157
      go_wp2_with (first | (go_at_call 104; refine (vecKind_any _ _).mono ?_; rintro e w' ⟨rfl, rfl⟩; (try rw [K3.out])) | (go_at_call 180; refine (AH.out _).mono ?_; rintro e w' ⟨rfl, rfl⟩; (first | rw [K1.out] | rw [K2.out] | skip)))
      go_ret
      exact ⟨ret_bool (by rw [← HR.out]; rw [HX.out, K1.out]; simp), Step.of⟩
  have e5 : (n.kind == 5) = false := by simpa using k5
  have HX : Hid (nodB n m = false) := by show _ = _; simp [nodB, k0, k1, k2, k3, k4, k5]
  clear k0 k1 k2 k3 k4 k5
  go_enter Tryz.func157, Tryz.ntmps157
  go_wp2_with (first | (go_at_call 104; refine (vecKind_any _ _).mono ?_; rintro e w' ⟨rfl, rfl⟩; (try rw [K3.out])) | (go_at_call 180; refine (AH.out _).mono ?_; rintro e w' ⟨rfl, rfl⟩; (first | rw [K1.out] | rw [K2.out] | skip)))
  go_ret
  exact ⟨ret_bool (by rw [← HR.out]; exact HX.out.symm), Step.of⟩

set_option maxHeartbeats 1000000 in
theorem ppred_any {w0 : World} (ns : List Nod) (A : Option Addr) (cap : Nat) (w : World) (h : PrIn w0 ns A cap) [hf : Fut w0 w] :
    Calls Tryz.prog 123 #[.agg #[.slice A ns.length cap]] w fun e w' => e = .returned (.bool (predB ns)) ∧ Step w w' := by
  have hl := h.len
  have hz := hf.below.size
  by_cases h24 : ns.length ≤ 24
  · have HP : Hid (predB ns = nodsUpto ns ns.length) := by show _ = _; simp [predB, h24]
    have HB := hide (Blk.new w [.slice A ns.length cap] 34)
    rw [HP.out]
    go_enter Tryz.func123, Tryz.ntmps123
    go_wp2
    go_loopw [3, 11] (fun _ i wr => ∃ k : Nat, k ≤ ns.length ∧ i = .int .i64 k ∧ nodsUpto ns k = true ∧ Step (w.alloc (.cells #[.slice A ns.length cap] 34)) wr) (fun _ i _ => ns.length - (intOf i).toNat)
    case atStart => exact ⟨0, Nat.zero_le _, rfl, rfl, Step.of⟩
    case round =>
      obtain ⟨k, hk, rfl, hok, hst⟩ := hrel
      have HO := hide hok; clear hok
      have hs1 := hst.size
      simp only [hsz] at hs1
      have hs2 : w.heap.size < wr.heap.size := by omega
      have r0 := At.z1 (HB.out.fut (w' := wr)).at0
      by_cases hlt : k < ns.length
      · obtain ⟨b, off, rfl, hb, n, hn, hat⟩ := h.node (w' := wr) inferInstance hlt
        have HN := hide hn; clear hn
        have hm := fun w' [Fut wr w'] => pmayN_any b (off + k * 9) n k w' hat (by omega)
        cases hnb : nodB n k with
        | true =>
          rw [hnb] at hm
          have HM := hide hm; have HNB := hide hnb
          clear hm hnb hat
          go_wp2_with fail
          refine (HM.out _).mono ?_
          rintro e w2 ⟨rfl, hs⟩
          go_wp2_with fail
          go_roundw
          case rel => exact ⟨k + 1, by omega, by go_num, by rw [nodsUpto, HO.out, HN.out]; simp [HNB.out], Step.of⟩
          case measure => simp [intOf]; omega
        | false =>
          rw [hnb] at hm
          have HM := hide hm; have HNB := hide hnb
          clear hm hnb hat
          go_wp2_with fail
          refine (HM.out _).mono ?_
          rintro e w2 ⟨rfl, hs⟩
          go_wp2_with fail
          go_ret
          exact ⟨ret_bool (nodsUpto_bad HN.out HNB.out).symm, Step.of⟩
      · obtain rfl : k = ns.length := by omega
        go_wp2_with fail
        go_ret
        exact ⟨ret_bool HO.out.symm, Step.of⟩
  · have h25 : (24 : Int) < (ns.length : Int) := by omega
    have HP : Hid (predB ns = false) := by show _ = _; simp [predB]; omega
    clear h24
    rw [HP.out]
    go_enter Tryz.func123, Tryz.ntmps123
    go_wp2
    go_ret
    exact ⟨rfl, Step.of⟩
end Go.Proofs.YtnphokhehacfnaaGreatDoor

