/-
  The program's comparisons and truths of single nodes.
-/
import Derived.Test.YtafgfehjdbomfaaDoorV
import Derived.Deep.RegionHeld3
import Derived.Deep.RegionLaw
import Derived.Deep.Cut
import Derived.Deep.CutBlock
namespace Go.Proofs.YtafgfehjdbomfaaDoor
open Go.RowKit

theorem At.far {w : World} {b o r i : Nat} {cs : List Value} (h : At w b o cs) (hne : b ≠ r) (u : Value) : At (w.setCell ⟨r, i, none⟩ u) b o cs := h.keep fun o' => World.cell?_of_block (w := w) (Below.heap_setCell w _ u b (by simpa using hne))
theorem hdz (w : World) : w.drew.heap.size = w.heap.size := rfl
theorem ptruth_any (b : Bool) (w : World) : Calls Tryd.prog 98 #[.bool b] w fun e w' => e = .returned (.int .i64 (truthI b)) ∧ w = w' := by
  cases b
  all_goals
    go_enter Tryd.func98, Tryd.ntmps98
    go_wp2
    go_ret
    exact ⟨rfl, rfl⟩
set_option maxHeartbeats 1000000 in
theorem pjoin_any (k a b : Int) (w : World) (hk : k = 3 ∨ k = 4 ∨ k = 5) (ha : Tr a) (hb : Tr b) : Calls Tryd.prog 103 #[.int .i64 k, .int .i64 a, .int .i64 b] w fun e w' => e = .returned (.int .i64 (joinT k a b)) ∧ w = w' := by
  rcases hk with rfl | rfl | rfl <;> rcases ha with rfl | rfl | rfl <;> rcases hb with rfl | rfl | rfl
  all_goals
    go_enter Tryd.func103, Tryd.ntmps103
    go_wp2_with (go_at_call 98; refine (ptruth_any _ _).mono ?_; rintro e w' ⟨rfl, rfl⟩)
    go_ret
    exact ⟨rfl, rfl⟩
theorem clean_nil {v : Val} (h : kindV v = 0) : clean v = Val.zero := by
  unfold kindV at h
  have h1 : v.kind ≠ 1 := by intro e; simp [e] at h
  have h2 : v.kind ≠ 2 := by intro e; simp [e] at h
  have h3 : v.kind ≠ 3 := by intro e; simp [e] at h
  simp [clean, h1, h2, h3]
def Val.box (v : Val) : List Value := [.int .i64 (kindV v), .int .i64 (clean v).i, .bool (clean v).b, .string (clean v).s]
theorem Blk.put4 {w : World} {g : Nat} {e : TypeId} {a b c d : Value} (h : Blk w g e [a, b, c, d]) (x y z u : Value) : Blk ((((w.setCell ⟨g, 0, none⟩ x).setCell ⟨g, 1, none⟩ y).setCell ⟨g, 2, none⟩ z).setCell ⟨g, 3, none⟩ u) g e [x, y, z, u] :=
  (((h.set_ 0 x).set_ 1 y).set_ 2 z).set_ 3 u
theorem Blk.far4 {w : World} {g r : Nat} {e : TypeId} {cur : List Value} (h : Blk w g e cur) (hne : g ≠ r) (x y z u : Value) : Blk ((((w.setCell ⟨r, 0, none⟩ x).setCell ⟨r, 1, none⟩ y).setCell ⟨r, 2, none⟩ z).setCell ⟨r, 3, none⟩ u) g e cur :=
  (((h.far (p := ⟨r, 0, none⟩) hne x).far (p := ⟨r, 1, none⟩) hne y).far (p := ⟨r, 2, none⟩) hne z).far (p := ⟨r, 3, none⟩) hne u
theorem below4 {w w' : World} {B r : Nat} (h : Below B w w') (hr : B ≤ r) (x y z u : Value) : Below B w ((((w'.setCell ⟨r, 0, none⟩ x).setCell ⟨r, 1, none⟩ y).setCell ⟨r, 2, none⟩ z).setCell ⟨r, 3, none⟩ u) :=
  (((h.setCell (p := ⟨r, 0, none⟩) hr x).setCell (p := ⟨r, 1, none⟩) hr y).setCell (p := ⟨r, 2, none⟩) hr z).setCell (p := ⟨r, 3, none⟩) hr u

set_option maxRecDepth 100000 in
set_option maxHeartbeats 4000000 in
theorem pless_any (a b : Val) (w : World) : Calls Tryd.prog 108 #[a.val, b.val] w fun e w' => e = .returned (.bool (lessV a b)) ∧ Step w w' := by
  obtain ⟨R, hR⟩ : ∃ R, lessV a b = R := ⟨_, rfl⟩
  have HR := hide hR
  rw [hR]
  clear hR
  have PA := hide (plain_ag a)
  have PB := hide (plain_ag b)
  unfold Val.val
  have HA0 := hide ((Blk.new w a.cells 57).alloc (.cells #[.int .i64 b.kind, .int .i64 b.i, .bool b.b, .string b.s] 57))
  have HB0 := hide (Blk.new_at (w := w.alloc (.cells #[.int .i64 a.kind, .int .i64 a.i, .bool a.b, .string a.s] 57)) (b := w.heap.size + 1) (by simp) b.cells 57)
  go_enter Tryd.func108, Tryd.ntmps108
  go_upto_region 1 with (fail)
  obtain ⟨W, hW⟩ : ∃ W, W = (w.alloc (.cells #[.int .i64 a.kind, .int .i64 a.i, .bool a.b, .string a.s] 57)).alloc (.cells #[.int .i64 b.kind, .int .i64 b.i, .bool b.b, .string b.s] 57) := ⟨_, rfl⟩
  have SW : Step w W := by rw [hW]; exact Step.of
  have HA : Hid (Blk W w.heap.size 57 [.int .i64 a.kind, .int .i64 a.i, .bool a.b, .string a.s]) := by rw [hW]; exact HA0.out
  have HB : Hid (Blk W (w.heap.size + 1) 57 [.int .i64 b.kind, .int .i64 b.i, .bool b.b, .string b.s]) := by rw [hW]; exact HB0.out
  rw [← hW]
  clear hW HA0 HB0
  go_cut [8] from 5 to 7 (fun _ wx => Blk wx w.heap.size 57 a.box ∧ Blk wx (w.heap.size + 1) 57 b.box ∧ Step w wx)
  case first =>
    obtain ⟨a0, a1, a2, a3⟩ := At.z4 HA.out.at0
    obtain ⟨b0, b1, b2, b3⟩ := At.z4 HB.out.at0
    have la := HA.out.lt; have lb := HB.out.lt
    have fa := HA.out.free; have fb := HB.out.free
    go_region_law (first
      | (go_simp; go_at_call 80; first
          | ((with_reducible refine (PA.out _).mono ?_); intro e w5 hr5; obtain ⟨rfl, hs5⟩ := hr5; obtain ⟨c5, f5⟩ := hs5.reads; (try simp only [hdz] at c5 f5); have z6 := hs5.size; (try simp only [hdz] at z6); (try have lt6 : w.heap.size < w5.heap.size := by omega); (try have lt7 : w.heap.size + 1 < w5.heap.size := by omega))
          | ((with_reducible refine (PB.out _).mono ?_); intro e w6 hr6; obtain ⟨rfl, hs6⟩ := hr6; obtain ⟨c6, f6⟩ := hs6.reads; (try simp only [hdz] at c6 f6); have z7 := hs6.size; (try simp only [hdz] at z7); (try have lt8 : w.heap.size < w6.heap.size := by omega); (try have lt9 : w.heap.size + 1 < w6.heap.size := by omega))))
    all_goals
      go_wp2_with fail
      go_meet
      case rel =>
        have ka := HA.out.fut (w' := w6)
        have kb := HB.out.fut (w' := w6)
        exact ⟨(ka.put4 _ _ _ _).far4 (by omega) _ _ _ _, (kb.far4 (by omega) _ _ _ _).put4 _ _ _ _, ⟨below4 (below4 (fut w w6) (Nat.le_refl _) _ _ _ _) (by omega) _ _ _ _⟩⟩
  case rest =>
    obtain ⟨ha, hb, hs⟩ := hcut
    obtain ⟨a0, a1, a2, a3⟩ := At.z4 ha.at0
    obtain ⟨b0, b1, b2, b3⟩ := At.z4 hb.at0
    have la := ha.lt; have lb := hb.lt
    clear ha hb HA HB PA PB
    obtain ⟨x0, x3⟩ := kindV_bd a
    by_cases hk : kindV a = kindV b
    · have e0 : (kindV a != kindV b) = false := by simpa using hk
      have HK := hide hk
      clear hk
      have hcs : kindV a = 1 ∨ kindV a = 2 ∨ kindV a = 3 ∨ kindV a = 0 := by omega
      rcases hcs with h | h | h | h
      · have e1 : (kindV a == 1) = true := by simpa using h
        have HE : Hid (decide ((clean a).i < (clean b).i) = R) := by
          show _ = _
          rw [← HR.out, lessV, if_neg (by simp [HK.out]), if_pos h, clean_i h, clean_i (by rw [← HK.out]; exact h)]
        clear h x0 x3
        go_wp2
        go_ret
        exact ⟨ret_bool HE.out, hs⟩
      · have e1 : (kindV a == 1) = false := by simp [h]
        have e2 : (kindV a == 2) = true := by simpa using h
        have HE : Hid ((!(clean a).b && (clean b).b) = R) := by
          show _ = _
          rw [← HR.out, lessV, if_neg (by simp [HK.out]), if_neg (by omega), if_pos h, clean_b h, clean_b (by rw [← HK.out]; exact h)]
        clear h x0 x3
        obtain ⟨u, hu⟩ : ∃ u, (clean a).b = u := ⟨_, rfl⟩
        rw [hu] at HE a2
        clear hu
        cases u
        all_goals
          go_wp2
          go_ret
          exact ⟨ret_bool (by have := HE.out; simpa using this), hs⟩
      · have e1 : (kindV a == 1) = false := by simp [h]
        have e2 : (kindV a == 2) = false := by simp [h]
        have HE : Hid (Op.bytesLess (clean a).s.toList (clean b).s.toList = R) := by
          show _ = _
          rw [← HR.out, lessV, if_neg (by simp [HK.out]), if_neg (by omega), if_neg (by omega), if_pos h, clean_s h, clean_s (by rw [← HK.out]; exact h)]
          rfl
        clear h x0 x3
        go_wp2
        go_ret
        exact ⟨ret_bool HE.out, hs⟩
      · have e1 : (kindV a == 1) = false := by simp [h]
        have e2 : (kindV a == 2) = false := by simp [h]
        have HE : Hid (Op.bytesLess (clean a).s.toList (clean b).s.toList = R) := by
          show _ = _
          rw [← HR.out, lessV, if_neg (by simp [HK.out]), if_neg (by omega), if_neg (by omega), if_neg (by omega), clean_nil (v := b) (by rw [← HK.out]; exact h)]
          rw [ByteArray.toList_eq, ByteArray.toList_eq]
          exact bytesLess_nil _
        clear h x0 x3
        go_wp2
        go_ret
        exact ⟨ret_bool HE.out, hs⟩
    · have e0 : (kindV a != kindV b) = true := by simpa using hk
      have HE : Hid (decide (kindV a < kindV b) = R) := by
        show _ = _
        rw [← HR.out, lessV, if_pos hk]
      clear hk x0 x3
      go_wp2
      go_ret
      exact ⟨ret_bool HE.out, hs⟩

set_option maxHeartbeats 2000000 in
theorem pstands_any (c : Int) (a b : Val) (w : World) : Calls Tryd.prog 99 #[.int .i64 c, a.val, b.val] w fun e w' => e = .returned (.bool (standB c a b)) ∧ Step w w' := by
  obtain ⟨L, hL⟩ : ∃ L, lessV a b = L := ⟨_, rfl⟩
  obtain ⟨M, hM⟩ : ∃ M, lessV b a = M := ⟨_, rfl⟩
  have HS : Hid (standB c a b = (if c = 0 then !L && !M else if c = 1 then L || M else if c = 2 then L else if c = 3 then !M else if c = 4 then M else !L)) := by show _ = _; rw [← hL, ← hM]; rfl
  have pa := pless_any a b
  have pb := pless_any b a
  rw [hL] at pa
  rw [hM] at pb
  clear hL hM
  unfold Val.val at pa pb ⊢
  have PA := hide pa; have PB := hide pb
  clear pa pb
  obtain ⟨R, hR⟩ : ∃ R, standB c a b = R := ⟨_, rfl⟩
  rw [hR] at HS ⊢
  clear hR
  have HA0 := hide ((Blk.new w a.cells 57).alloc (.cells #[.int .i64 b.kind, .int .i64 b.i, .bool b.b, .string b.s] 57))
  have HB0 := hide (Blk.new_at (w := w.alloc (.cells #[.int .i64 a.kind, .int .i64 a.i, .bool a.b, .string a.s] 57)) (b := w.heap.size + 1) (by simp) b.cells 57)
  go_enter Tryd.func99, Tryd.ntmps99
  go_upto_region 1 with (fail)
  obtain ⟨W, hW⟩ : ∃ W, W = (w.alloc (.cells #[.int .i64 a.kind, .int .i64 a.i, .bool a.b, .string a.s] 57)).alloc (.cells #[.int .i64 b.kind, .int .i64 b.i, .bool b.b, .string b.s] 57) := ⟨_, rfl⟩
  have SW : Step w W := by rw [hW]; exact Step.of
  have HA : Hid (Blk W w.heap.size 57 [.int .i64 a.kind, .int .i64 a.i, .bool a.b, .string a.s]) := by rw [hW]; exact HA0.out
  have HB : Hid (Blk W (w.heap.size + 1) 57 [.int .i64 b.kind, .int .i64 b.i, .bool b.b, .string b.s]) := by rw [hW]; exact HB0.out
  rw [← hW]
  clear hW HA0 HB0
  go_cut [7, 8] from 9 to 14 (fun x y wx => x = .bool L ∧ y = .bool M ∧ Step W wx)
  case first =>
    obtain ⟨a0, a1, a2, a3⟩ := At.z4 HA.out.at0
    obtain ⟨b0, b1, b2, b3⟩ := At.z4 HB.out.at0
    have la := HA.out.lt; have lb := HB.out.lt
    go_region_held3 (fun w' => Step W w' ∧ (∀ b o, b < W.heap.size → w'.cell? ⟨b, o, none⟩ = W.cell? ⟨b, o, none⟩))
      (first | exact ⟨Step.of, (bcell (fut _ _)).1⟩)
      (first | (go_at_call 108; go_split_ands; first | ((with_reducible refine (PA.out _).mono ?_); rintro e w' ⟨rfl, hq⟩) | ((with_reducible refine (PB.out _).mono ?_); rintro e w' ⟨rfl, hq⟩)))
    all_goals
      go_wp2_with fail
      go_meet
      case rel => exact ⟨rfl, rfl, by go_split_ands; first | assumption | exact Step.of⟩
  case rest =>
    obtain ⟨rfl, rfl, hs⟩ := hcut
    clear PA PB HA HB
    by_cases h0 : c = 0
    · subst h0
      cases L <;> cases M
      all_goals
        go_wp2
        go_ret
        exact ⟨ret_bool (by rw [HS.out]; rfl), Step.of⟩
    have e0 : (c == 0) = false := by simpa using h0
    by_cases h1 : c = 1
    · subst h1
      clear h0 e0
      cases L <;> cases M
      all_goals
        go_wp2
        go_ret
        exact ⟨ret_bool (by rw [HS.out]; rfl), Step.of⟩
    have e1 : (c == 1) = false := by simpa using h1
    by_cases h2 : c = 2
    · subst h2
      clear h0 e0 h1 e1
      go_wp2
      go_ret
      exact ⟨ret_bool (by rw [HS.out]; rfl), Step.of⟩
    have e2 : (c == 2) = false := by simpa using h2
    by_cases h3 : c = 3
    · subst h3
      clear h0 e0 h1 e1 h2 e2
      go_wp2
      go_ret
      exact ⟨ret_bool (by rw [HS.out]; rfl), Step.of⟩
    have e3 : (c == 3) = false := by simpa using h3
    by_cases h4 : c = 4
    · subst h4
      clear h0 e0 h1 e1 h2 e2 h3 e3
      go_wp2
      go_ret
      exact ⟨ret_bool (by rw [HS.out]; rfl), Step.of⟩
    have e4 : (c == 4) = false := by simpa using h4
    have HX : Hid (R = !L) := by show _ = _; rw [HS.out]; simp [h0, h1, h2, h3, h4]
    clear h0 h1 h2 h3 h4
    go_wp2
    go_ret
    exact ⟨ret_bool HX.out.symm, Step.of⟩

theorem leafT_null {n : Nod} {v : Val} (h : n.kind = 2) : leafT n v = truthI (kindV v == 0) := by simp [leafT, h]
theorem leafT_cmp {n : Nod} {v : Val} (h : n.kind = 1) (hv : kindV v ≠ 0) : leafT n v = truthI (standB n.cmp v n.v) := by simp [leafT, h, hv]
theorem leafT_unk {n : Nod} {v : Val} (h : n.kind = 1) (hv : kindV v = 0) : leafT n v = 2 := by simp [leafT, h, hv]
def Val.cl (v : Val) : Val := ⟨kindV v, (clean v).i, (clean v).b, (clean v).s⟩
theorem cl_eq (v : Val) : v.cl = clean v := by rw [Val.cl, ← clean_kind]
set_option maxRecDepth 100000 in
set_option maxHeartbeats 4000000 in
/-- A node that stands in memory, and its truth of a value. -/
theorem pleaf_any {w0 : World} (b o : Nat) (n : Nod) (v : Val) (w : World) (hn : At w0 b o n.cells) (hb : b < w0.heap.size) [hf : Fut w0 w] (hk : n.kind = 1 ∨ n.kind = 2) :
    Calls Tryd.prog 67 #[.pointer (some ⟨b, o, none⟩), v.val] w fun e w' => e = .returned (.int .i64 (leafT n v)) ∧ Step w w' := by
  have PV := hide (plain_ag v)
  have hz := hf.below.size
  have hlt : b < w.heap.size := by omega
  have HN := hide hn; clear hn
  have HV0 := hide (Blk.new w [.int .i64 v.kind, .int .i64 v.i, .bool v.b, .string v.s] 57)
  unfold Val.val
  obtain ⟨R, hR⟩ : ∃ R, leafT n v = R := ⟨_, rfl⟩
  have HR := hide hR
  rw [hR]
  clear hR
  go_enter Tryd.func67, Tryd.ntmps67
  go_wp2_with fail
  refine (PV.out _).mono ?_
  rintro e w1 ⟨rfl, hs1⟩
  have HV1 := hide (HV0.out.fut (w' := w1))
  obtain ⟨v0, v1, v2, v3⟩ := At.z4 HV1.out.at0
  have fv := HV1.out.free; have lv := HV1.out.lt
  obtain ⟨n0, n1, n2, n3, n4, n5, n6, n7, n8⟩ := At.l9 (HN.out.below (fut w0 w1) hb)
  have hlt1 : b < w1.heap.size := by omega
  have hne : b ≠ w.heap.size := by omega
  rcases hk with hk | hk
  · by_cases hv : kindV v = 0
    · have hv' : (kindV v == 0) = true := by simpa using hv
      have HL := hide (leafT_unk hk hv)
      rw [hk] at n0
      clear hk hv
      go_wp2_with fail
      go_ret
      exact ⟨ret_int (by rw [← HR.out, HL.out]), ⟨below4 (fut w w1) (Nat.le_refl _) _ _ _ _⟩⟩
    · have hv' : (kindV v == 0) = false := by simpa using hv
      have HL := hide (leafT_cmp hk hv)
      have ps := pstands_any n.cmp v.cl n.v
      have hst : standB n.cmp v.cl n.v = standB n.cmp v n.v := by rw [cl_eq, standB_clean]
      rw [hst] at ps
      unfold Val.val Val.cl at ps
      have PS := hide ps
      rw [hk] at n0
      clear hk hv hst ps
      go_upto_region 8 with (fail)
      obtain ⟨W, hW⟩ : ∃ W, W = (((w1.setCell ⟨w.heap.size, 0, none⟩ (.int .i64 (kindV v))).setCell ⟨w.heap.size, 1, none⟩ (.int .i64 (clean v).i)).setCell ⟨w.heap.size, 2, none⟩ (.bool (clean v).b)).setCell ⟨w.heap.size, 3, none⟩ (.string (clean v).s) := ⟨_, rfl⟩
      have SW : Step w W := by rw [hW]; exact ⟨below4 (fut w w1) (Nat.le_refl _) _ _ _ _⟩
      have HVW : Hid (Blk W w.heap.size 57 v.box) := by rw [hW]; exact HV1.out.put4 _ _ _ _
      have HNW : Hid (At W b o n.cells) := by rw [hW]; exact ((((HN.out.below (fut w0 w1) hb).far hne _).far hne _).far hne _).far hne _
      have hzW : b < W.heap.size := by rw [hW]; simpa [World.setCell] using hlt1
      rw [← hW]
      clear hW v0 v1 v2 v3 n0 n1 n2 n3 n4 n5 n6 n7 n8 fv lv HV1
      obtain ⟨v0, v1, v2, v3⟩ := At.z4 HVW.out.at0
      obtain ⟨n0, n1, n2, n3, n4, n5, n6, n7, n8⟩ := At.l9 HNW.out
      have lv := HVW.out.lt
      refine wp_region_held_drew (S := (fun w' => Step W w' ∧ (∀ b o, b < W.heap.size → w'.cell? ⟨b, o, none⟩ = W.cell? ⟨b, o, none⟩))) (by kernel_rfl) (by (try dsimp only); (first | exact ⟨hS1, hS2⟩ | exact ⟨Step.of, (bcell (fut _ _)).1⟩)) (fun hHeld => ?_)
      refine wpAnyH_take (i := 0) (oi := ⟨some 27, _, _, _, _, _⟩) (v := ?va1) rfl (by kernel_rfl) (by kernel_rfl) (by kernel_rfl) (fun _ _ _ h => h) (Or.inl ⟨by rfl, ?hy1⟩) (by assumption) ?rs1
      case hy1 => ((intro w hSw); (try dsimp only at hSw); go_simp; (try with_reducible rfl))
      (try simp only [Act.put, List.setIfInBounds_toArray, List.set_cons_zero, List.set_cons_succ])
      refine wpAnyH_take (i := 1) (oi := ⟨some 28, _, _, _, _, _⟩) (v := ?va2) rfl (by kernel_rfl) (by kernel_rfl) (by kernel_rfl) (fun _ _ _ h => h) (Or.inl ⟨by rfl, ?hy2⟩) (by assumption) ?rs2
      case hy2 => ((intro w hSw); (try dsimp only at hSw); go_simp; (try with_reducible rfl))
      (try simp only [Act.put, List.setIfInBounds_toArray, List.set_cons_zero, List.set_cons_succ])
      refine wpAnyH_take (i := 2) (oi := ⟨some 29, _, _, _, _, _⟩) (v := ?va3) rfl (by kernel_rfl) (by kernel_rfl) (by kernel_rfl) (fun _ _ _ h => h) (Or.inl ⟨by rfl, ?hy3⟩) (by assumption) ?rs3
      case hy3 => ((intro w hSw); (try dsimp only at hSw); go_simp; (try with_reducible rfl))
      (try simp only [Act.put, List.setIfInBounds_toArray, List.set_cons_zero, List.set_cons_succ])
      refine wpAnyH_take (i := 3) (oi := ⟨some 30, _, _, _, _, _⟩) (v := ?va4) rfl (by kernel_rfl) (by kernel_rfl) (by kernel_rfl) (fun _ _ _ h => h) (Or.inl ⟨by rfl, ?hy4⟩) (by assumption) ?rs4
      case hy4 => ((intro w hSw); (try dsimp only at hSw); go_simp; (try with_reducible rfl))
      (try simp only [Act.put, List.setIfInBounds_toArray, List.set_cons_zero, List.set_cons_succ])
      refine wpAnyH_take (i := 4) (oi := ⟨some 31, _, _, _, _, _⟩) (v := ?va5) rfl (by kernel_rfl) (by kernel_rfl) (by kernel_rfl) (fun _ _ _ h => h) (Or.inl ⟨by rfl, ?hy5⟩) (by assumption) ?rs5
      case hy5 => ((intro w hSw); (try dsimp only at hSw); go_simp; (try with_reducible rfl))
      (try simp only [Act.put, List.setIfInBounds_toArray, List.set_cons_zero, List.set_cons_succ])
      refine wpAnyH_take (i := 5) (oi := ⟨some 32, _, _, _, _, _⟩) (v := ?va6) rfl (by kernel_rfl) (by kernel_rfl) (by kernel_rfl) (fun _ _ _ h => h) (Or.inl ⟨by rfl, ?hy6⟩) (by assumption) ?rs6
      case hy6 => ((intro w hSw); (try dsimp only at hSw); go_simp; (try with_reducible rfl))
      (try simp only [Act.put, List.setIfInBounds_toArray, List.set_cons_zero, List.set_cons_succ])
      refine wpAnyH_take (i := 6) (oi := ⟨some 33, _, _, _, _, _⟩) (v := ?va7) rfl (by kernel_rfl) (by kernel_rfl) (by kernel_rfl) (fun _ _ _ h => h) (Or.inl ⟨by rfl, ?hy7⟩) (by assumption) ?rs7
      case hy7 => ((intro w hSw); (try dsimp only at hSw); go_simp; (try with_reducible rfl))
      (try simp only [Act.put, List.setIfInBounds_toArray, List.set_cons_zero, List.set_cons_succ])
      refine wpAnyH_take (i := 7) (oi := ⟨some 34, _, _, _, _, _⟩) (v := ?va8) rfl (by kernel_rfl) (by kernel_rfl) (by kernel_rfl) (fun _ _ _ h => h) (Or.inl ⟨by rfl, ?hy8⟩) (by assumption) ?rs8
      case hy8 => ((intro w hSw); (try dsimp only at hSw); go_simp; (try with_reducible rfl))
      (try simp only [Act.put, List.setIfInBounds_toArray, List.set_cons_zero, List.set_cons_succ])
      refine wpAnyH_take (i := 8) (oi := ⟨some 35, _, _, _, _, _⟩) (v := ?va9) rfl (by kernel_rfl) (by kernel_rfl) (by kernel_rfl) (fun _ _ _ h => h) (Or.inl ⟨by rfl, ?hy9⟩) (by assumption) ?rs9
      case hy9 => ((intro w hSw); (try dsimp only at hSw); go_simp; (try with_reducible rfl))
      (try simp only [Act.put, List.setIfInBounds_toArray, List.set_cons_zero, List.set_cons_succ])
      refine wpAnyH_ready (rs := [9]) (by kernel_rfl) (by simp) ?_
      refine AllReadyH.cons (o := ⟨some 36, _, _, _, _, _⟩) rfl (fun K hK => ?_) AllReadyH.nil
      obtain ⟨hS1, hS2⟩ := hHeld
      go_simp
      (go_at_call 99; (with_reducible refine (PS.out _).mono ?_); rintro e w' ⟨rfl, hq⟩)
      refine hK.out _ _ (by (try dsimp only); (first | exact ⟨hS1, hS2⟩ | exact ⟨Step.of, (bcell (fut _ _)).1⟩)) (fun hHeld => ?_)
      clear hK K
      (try simp only [Act.put, List.setIfInBounds_toArray, List.set_cons_zero, List.set_cons_succ])
      refine wpAnyH_ready (rs := [10]) (by kernel_rfl) (by simp) ?_
      refine AllReadyH.cons (o := ⟨some 37, _, _, _, _, _⟩) rfl (fun K hK => ?_) AllReadyH.nil
      obtain ⟨hS1, hS2⟩ := hHeld
      go_simp
      (go_at_call 98; (with_reducible refine (ptruth_any _ _).mono ?_); rintro e w' ⟨rfl, rfl⟩)
      refine hK.out _ _ (by (try dsimp only); (first | exact ⟨hS1, hS2⟩ | exact ⟨Step.of, (bcell (fut _ _)).1⟩)) (fun hHeld => ?_)
      clear hK K
      (try simp only [Act.put, List.setIfInBounds_toArray, List.set_cons_zero, List.set_cons_succ])
      refine wpAnyH_take (i := 11) (oi := ⟨some 4, _, _, _, _, _⟩) (v := ?va12) rfl (by kernel_rfl) (by kernel_rfl) (by kernel_rfl) (fun _ _ _ h => h) (Or.inl ⟨by rfl, ?hy12⟩) (by assumption) ?rs12
      case hy12 => ((intro w hSw); (try dsimp only at hSw); go_simp; (try with_reducible rfl))
      (try simp only [Act.put, List.setIfInBounds_toArray, List.set_cons_zero, List.set_cons_succ])
      refine wpAnyH_done (by kernel_rfl) ?_ _
      obtain ⟨hS1, hS2⟩ := hHeld
      go_wp2_with fail
      go_ret
      exact ⟨ret_int (by rw [← HR.out, HL.out]), Step.of⟩
  · have HL := hide (leafT_null (v := v) hk)
    rw [hk] at n0
    clear hk
    go_wp2_with (go_at_call 98; refine (ptruth_any _ _).mono ?_; rintro e w' ⟨rfl, rfl⟩)
    go_ret
    exact ⟨ret_int (by rw [← HR.out, HL.out]), ⟨below4 (fut w w1) (Nat.le_refl _) _ _ _ _⟩⟩
end Go.Proofs.YtafgfehjdbomfaaDoor
