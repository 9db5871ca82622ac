/-
  listing.of: the versions among keys, in order.
-/
import Derived.Test.YtlcimfabimfekaaGreatDoorLg
import Derived.Deep.RegionHeld3
import Derived.Deep.RegionLaw
import Derived.Deep.Cut
import Derived.Deep.CutBlock
namespace Go.Proofs.YtlcimfabimfekaaGreatDoor
open Go.RowKit

theorem eiInt : EI Tryz.prog 54 3 1 8 :=
  ⟨Tryz.underlying54, info_parts (show (Tryz.prog.info? 3).map (fun i => (i.zero, i.size, i.bytes)) = some (some (.int .i64 0), 1, 8) by kernel_rfl) |>.elim fun i h => ⟨i, _, h.1, h.2.1, h.2.2.1, h.2.2.2, rfl⟩, by decide, by decide⟩
def ob (A : Option Addr) : Option Nat := A.map Addr.block
theorem ob_eq (A : Option Addr) (n c : Nat) : (Value.slice A n c).ownBlock = ob A := by cases A <;> rfl
/-- Two slices in blocks of their own. -/
def Apart (A B : Option Addr) : Prop := ∀ g, ob A = some g → ob B ≠ some g
theorem Apart.symm {A B : Option Addr} (h : Apart A B) : Apart B A := fun g h1 h2 => h g h2 h1

section
variable {P : Program} {w : World}
theorem wpList_append_slB {ops : Array Oper} {rest : List Oper} {o : Oper} {a : Act} {Q : Exit → Act → World → Prop} (hgd : o.guard = none) (s x : Operand) (t : TypeId)
    (ho : o.op = .call { callee := .builtin .append, args := #[s, x], argTypes := #[t, t] }) {e : TypeId} {size bytes : Nat} (hei : EI P t e size bytes)
    {base : Nat} {v : Value} {xs : List (List Value)} (hs : a.eval s = v) (hown : Own w base e size v xs) (hxs : Fit size xs)
    {ad : Addr} {c : Nat} {y : List Value} (hx : a.eval x = .slice (some ad) 1 c) (hr : ∀ j u, y[j]? = some u → w.cell? (ad.add j) = some u) (hys : Fit size [y])
    (hlen : (xs.length + 1) * bytes ≤ 140737488355328) (hbase : base ≤ w.heap.size)
    {N : Nat} (hN : xs.length + 1 = N) (h : ∀ (A' : Option Addr) (cap' : Nat) w', Own w' base e size (.slice A' N cap') (xs ++ [y]) → w.grownBy w' v.ownBlock → Below base w w' → (ob A' = v.ownBlock ∨ ob A' = some w.heap.size) → wpList P ops Q rest (a.put o.dst (.slice A' N cap')) w') : wpList P ops Q (o :: rest) a w := by
  refine wpList_plain hgd fun K hK => ?_
  obtain ⟨ht, ⟨i, z, hi, hz, hsize, hby, hzs⟩, hsz, hbz⟩ := id hei
  have hle : xs.length + 1 ≤ 140737488355328 := Nat.le_trans (Nat.le_mul_of_pos_right _ hbz) hlen
  have hyl : y.length = 1 * size := by rw [Nat.one_mul]; exact hys.len y (by simp)
  obtain ⟨v', w', hrun, h2, h3, _, h5⟩ := run_append_own_at (P := P) w base t o.type e i z size bytes ht hi hz hsize hby hzs hsz v xs.length xs.flatten hown ad 1 c y hyl hr (fun u hu => hys.one u (by simpa using hu)) (by simp only [maxLen]; omega) hlen hbase
  unfold Oper.wp execOp
  simp only [ho, resolve, invoke, builtin, Sem.run_bind, Sem.run_pure, Result.andThen_ok, List.map_toArray, List.map_cons, List.map_nil, hs, hx, hrun]
  have h2b : Own w' base e size v' (xs ++ [y]) := by
    unfold Own
    rw [List.length_append, List.flatten_append]
    simpa using h2
  obtain ⟨A', cap', hv, hc1, hc2, _⟩ := h2b.slice (n := N) (hxs.app hys).len (by rw [List.length_append]; exact hN)
  subst hv
  exact hK _ _ (h A' cap' w' h2b h3 (below_of_grown hown h3 hbase) (by rw [← ob_eq A' N cap']; exact h5))
end
/-- Numbers as the program has them. -/
def nats (l : List Nat) : List Int := l.map fun n : Nat => (n : Int)
theorem nats_len (l : List Nat) : (nats l).length = l.length := List.length_map ..
theorem nats_mem {l : List Nat} {x : Int} : x ∈ nats l ↔ ∃ c ∈ l, (c : Int) = x := by simp [nats]
theorem int_len (l : List Nat) : (intCells (nats l)).length = l.length := by simp [intCells, nats]
theorem intApp (a b : List Int) : intCells (a ++ b) = intCells a ++ intCells b := by simp [intCells]
theorem one_cell (w : World) (x : Int) : ∀ j u, [Value.int .i64 x][j]? = some u → (w.alloc (.cells #[.int .i64 x] 3)).cell? ((⟨w.heap.size, 0, none⟩ : Addr).add j) = some u := by
  intro j u hu
  have h := (Blk.new w [.int .i64 x] 3).at0 j u hu
  rw [Go.WideShapes.add_plain]
  exact h
theorem apart_new {w : World} {base n c : Nat} {e : TypeId} {B A A' : Option Addr} {l : List (List Value)} (ho : Own w base e 1 (.slice B n c) l) (h : ob A' = ob A ∨ ob A' = some w.heap.size) (ha : Apart B A) : Hid (Apart B A') := by
  intro g h1 h2
  rcases h with e1 | e1
  · exact ha g h1 (by rw [← e1]; exact h2)
  · have := (ho.lt g (by rw [ob_eq]; exact h1)).2
    rw [e1] at h2
    injection h2 with h2
    omega
/-- A key, as the program sees it. -/
theorem ver_cases (s : ByteArray) : (verV s = (-1, false) ∧ verR s.data.toList = none) ∨ ∃ (v : Nat) (b : Bool), verV s = ((v : Int), b) ∧ verR s.data.toList = some (v, b) ∧ v ≤ 2147483647 := by
  cases h : verR s.data.toList with
  | none => exact .inl ⟨ver_none h, rfl⟩
  | some p => obtain ⟨v, b⟩ := p; exact .inr ⟨v, b, ver_some h, rfl, (verR_some h).2⟩

set_option maxRecDepth 100000 in
set_option maxHeartbeats 16000000 in
theorem pof_any {w0 : World} (ks : List ByteArray) (A : Option Addr) (cap : Nat) (w : World) (h : KeysIn w0 ks A) (hl : ks.length ≤ 8796093022208) [f0 : Fut w0 w] :
    Calls Tryz.prog 25 #[.slice A ks.length cap] w fun e w' => ∃ (ys zs : List Int) (A1 A2 : Option Addr) (c1 c2 : Nat), e = .returned (.agg #[.slice A1 ys.length c1, .slice A2 zs.length c2]) ∧ Srt w' (versL false ks) ys A1 ∧ Srt w' (versL true ks) zs A2 ∧ Step w w' := by
  have z0 := f0.below.size
  have B2 := hide ((Blk.new w [.slice none 0 0, .slice none 0 0] 56).alloc (.cells #[.slice none 0 0, .slice none 0 0] 56))
  have B3 := hide (Blk.new_at (w := w.alloc (.cells #[.slice none 0 0, .slice none 0 0] 56)) (b := w.heap.size + 1) (by simp) [.slice none 0 0, .slice none 0 0] 56)
  go_enter Tryz.func25, Tryz.ntmps25
  go_wp2_with fail
  obtain ⟨W, hW⟩ : ∃ x : World, x = (w.alloc (.cells #[.slice none 0 0, .slice none 0 0] 56)).alloc (.cells #[.slice none 0 0, .slice none 0 0] 56) := ⟨_, rfl⟩
  have SW : Step w W := by rw [hW]; exact Step.of
  have hzW : W.heap.size = w.heap.size + 2 := by rw [hW]; simp
  rw [← hW] at B2 B3
  rw [← hW]
  clear hW
  obtain ⟨g2, hg2⟩ : ∃ g, g = w.heap.size := ⟨_, rfl⟩
  rw [← hg2] at B2 B3 hzW
  rw [← hg2]
  have hgw : w.heap.size ≤ g2 := by omega
  have HG := hide hg2
  clear hg2
  go_loopw [5, 6, 7, 10, 25, 28] (fun _ _ _ i _ _ wr => ∃ (k : Nat) (A1 A2 : Option Addr) (n1 n2 c1 c2 : Nat), k ≤ ks.length ∧ i = .int .i64 k ∧ Blk wr g2 56 [.slice none 0 0, .slice none 0 0] ∧ Blk wr (g2 + 1) 56 [.slice A1 n1 c1, .slice A2 n2 c2] ∧ Own wr (g2 + 2) 3 1 (.slice A1 n1 c1) (intCells (nats (versL false (ks.take k)))) ∧ Own wr (g2 + 2) 3 1 (.slice A2 n2 c2) (intCells (nats (versL true (ks.take k)))) ∧ Hid (n1 = (versL false (ks.take k)).length) ∧ Hid (n2 = (versL true (ks.take k)).length) ∧ Hid (Apart A1 A2) ∧ g2 + 2 ≤ wr.heap.size ∧ Step w wr) (fun _ _ _ i _ _ _ => ks.length - (intOf i).toNat)
  case atStart => exact ⟨0, none, none, 0, 0, 0, 0, Nat.zero_le _, rfl, B2.out, B3.out, Own.nil_ _ _ _ _, Own.nil_ _ _ _ _, rfl, rfl, (fun g h => by cases h), by omega, SW⟩
  case round =>
    clear B2 B3
    obtain ⟨k, A1, A2, n1, n2, c1, c2, hk, rfl, hb2, hb3, ho1, ho2, HN1, HN2, HAP, hgo, hst⟩ := hrel
    have B2 := hide hb2; have B3 := hide hb3; have O1 := hide ho1; have O2 := hide ho2
    clear hb2 hb3 ho1 ho2
    obtain ⟨wo, rfl⟩ : ∃ x : World, x = wr := ⟨_, rfl⟩
    have hzo := hst.size
    by_cases hlt : k < ks.length
    · obtain ⟨b, off, s, hA, hb, hks, hss, p0⟩ := h.key (w := wo) inferInstance hlt
      rw [hA]
      have hkl : (k : Int) < (ks.length : Int) := by omega
      have hk0 : (0 : Int) ≤ (k : Int) := by omega
      have hlb : b < wo.heap.size := by omega
      have PV := hide (fun w' => pver_any s w' hss)
      have hT0 := versL_take (b := false) hks
      have hT1 := versL_take (b := true) hks
      have hL0 : (versL false (ks.take k)).length ≤ k := Nat.le_trans (versL_len _ _) (by rw [List.length_take]; omega)
      have hL1 : (versL true (ks.take k)).length ≤ k := Nat.le_trans (versL_len _ _) (by rw [List.length_take]; omega)
      rcases ver_cases s with ⟨hv, hr⟩ | ⟨v, c, hv, hr, hvb⟩
      · rw [hr] at hT0 hT1
        rw [hv] at PV
        simp only [List.append_nil] at hT0 hT1
        have HT0 := hide hT0; have HT1 := hide hT1
        clear hT0 hT1 hv hr hA hks
        go_wp2_with (go_at_call 11; (with_reducible refine (PV.out _).mono ?_); rintro e w5 ⟨rfl, hs5⟩)
        go_roundw
        case rel => exact ⟨k + 1, A1, A2, n1, n2, c1, c2, by omega, by go_num, B2.out.fut, B3.out.fut, by rw [HT0.out]; exact O1.out.fut, by rw [HT1.out]; exact O2.out.fut, by rw [HT0.out]; exact HN1, by rw [HT1.out]; exact HN2, HAP, by have := (fut wo w5).size; omega, Step.of⟩
        case measure => simp [intOf]; omega
      · rw [hr] at hT0 hT1
        rw [hv] at PV
        cases c with
        | false =>
          simp only [List.append_nil, Bool.false_eq_true, if_true, if_false] at hT0 hT1
          have HT0 := hide hT0; have HT1 := hide hT1
          clear hT0 hT1 hv hr hA hks
          have HNew := hide (fun (w5 : World) => (SlAt.ints1 (w := w5) rfl (v : Int)))
          go_wp2_with (first
            | (go_at_call 11; (with_reducible refine (PV.out _).mono ?_); rintro e w5 ⟨rfl, hs5⟩; have hz5 := (fut wo w5).size; have b_ := B3.out.fut (w' := w5); obtain ⟨q0, q1⟩ := At.z2 b_.at0; have lq := b_.lt; clear b_)
            | (at_builtin; have HOW := hide ((O1.out.fut (w' := w5)).alloc (.cells #[.int .i64 (v : Int)] 3)); have HOO := hide ((O2.out.fut (w' := w5)).alloc (.cells #[.int .i64 (v : Int)] 3)); have hz6 : g2 + 2 ≤ (w5.alloc (.cells #[.int .i64 (v : Int)] 3)).heap.size := (by simp; omega); go_loud (refine wpList_append_slB rfl (.tmp 20) (.tmp 22) 54 rfl eiInt (base := g2 + 2) (v := .slice A1 n1 c1) (xs := intCells (nats (versL false (ks.take k)))) rfl HOW.out (int_fit _) (ad := ⟨w5.heap.size, 0, none⟩) (y := [.int .i64 (v : Int)]) rfl (one_cell w5 (v : Int)) (int_fit [(v : Int)]) (by rw [int_len]; omega) hz6 (N := n1 + 1) (by rw [int_len, ← HN1.out]) ?_; intro A7 c7 w7 hown7 hgr7 hbel7 hob7; have HO7 := hide hown7; rw [ob_eq] at hgr7 hob7; have HX7 := hide (HOO.out.grown_other hgr7 (fun q hq hh => by rw [ob_eq] at hq; exact HAP.out.symm q hq hh)); have HD7 : Hid (Apart A2 A7) := (apart_new HOO.out hob7 HAP.out.symm); have HB2 := hide (((B2.out.fut (w' := w5)).alloc (.cells #[.int .i64 (v : Int)] 3)).below hbel7 (by omega)); have hb3 := ((B3.out.fut (w' := w5)).alloc (.cells #[.int .i64 (v : Int)] 3)).below hbel7 (by omega); have hz7 := Nat.le_trans hz6 hbel7.size; have hs7 : Step w w7 := ⟨(fut w (w5.alloc (.cells #[.int .i64 (v : Int)] 3))).trans (hbel7.mono (by omega))⟩; clear q0 q1 lq; obtain ⟨q0, q1⟩ := At.z2 hb3.at0; have f3 := hb3.free; have lq := hb3.lt; have HB3 := hide hb3; clear hown7 hgr7 hbel7 hob7 hb3)))
          go_roundw
          case rel =>
            refine ⟨k + 1, A7, A2, n1 + 1, n2, c7, c2, by omega, by go_num, HB2.out.far (p := ⟨g2 + 1, 0, none⟩) (by simp) _, by simpa using HB3.out.set_ 0 (.slice A7 (n1 + 1) c7), by rw [HT0.out]; unfold nats; rw [List.map_append, intApp]; exact HO7.out.set_other HB3.out (by decide) 0 _, by rw [HT1.out]; exact HX7.out.set_other HB3.out (by decide) 0 _, by show _ = _; rw [HT0.out, List.length_append, ← HN1.out]; rfl, by rw [HT1.out]; exact HN2, HD7.out.symm, by simp [World.setCell]; exact hz7, ⟨hs7.below.setCell (by simp; omega) _⟩⟩
          case measure => simp [intOf]; omega
        | true =>
          simp only [List.append_nil, Bool.true_eq_false, if_true, if_false] at hT0 hT1
          have HT0 := hide hT0; have HT1 := hide hT1
          clear hT0 hT1 hv hr hA hks
          have HNew := hide (fun (w5 : World) => (SlAt.ints1 (w := w5) rfl (v : Int)))
          go_wp2_with (first
            | (go_at_call 11; (with_reducible refine (PV.out _).mono ?_); rintro e w5 ⟨rfl, hs5⟩; have hz5 := (fut wo w5).size; have b_ := B3.out.fut (w' := w5); obtain ⟨q0, q1⟩ := At.z2 b_.at0; have lq := b_.lt; clear b_)
            | (at_builtin; have HOW := hide ((O2.out.fut (w' := w5)).alloc (.cells #[.int .i64 (v : Int)] 3)); have HOO := hide ((O1.out.fut (w' := w5)).alloc (.cells #[.int .i64 (v : Int)] 3)); have hz6 : g2 + 2 ≤ (w5.alloc (.cells #[.int .i64 (v : Int)] 3)).heap.size := (by simp; omega); go_loud (refine wpList_append_slB rfl (.tmp 31) (.tmp 33) 54 rfl eiInt (base := g2 + 2) (v := .slice A2 n2 c2) (xs := intCells (nats (versL true (ks.take k)))) rfl HOW.out (int_fit _) (ad := ⟨w5.heap.size, 0, none⟩) (y := [.int .i64 (v : Int)]) rfl (one_cell w5 (v : Int)) (int_fit [(v : Int)]) (by rw [int_len]; omega) hz6 (N := n2 + 1) (by rw [int_len, ← HN2.out]) ?_; intro A7 c7 w7 hown7 hgr7 hbel7 hob7; have HO7 := hide hown7; rw [ob_eq] at hgr7 hob7; have HX7 := hide (HOO.out.grown_other hgr7 (fun q hq hh => by rw [ob_eq] at hq; exact HAP.out q hq hh)); have HD7 : Hid (Apart A1 A7) := (apart_new HOO.out hob7 HAP.out); have HB2 := hide (((B2.out.fut (w' := w5)).alloc (.cells #[.int .i64 (v : Int)] 3)).below hbel7 (by omega)); have hb3 := ((B3.out.fut (w' := w5)).alloc (.cells #[.int .i64 (v : Int)] 3)).below hbel7 (by omega); have hz7 := Nat.le_trans hz6 hbel7.size; have hs7 : Step w w7 := ⟨(fut w (w5.alloc (.cells #[.int .i64 (v : Int)] 3))).trans (hbel7.mono (by omega))⟩; clear q0 q1 lq; obtain ⟨q0, q1⟩ := At.z2 hb3.at0; have f3 := hb3.free; have lq := hb3.lt; have HB3 := hide hb3; clear hown7 hgr7 hbel7 hob7 hb3)))
          go_roundw
          case rel =>
            refine ⟨k + 1, A1, A7, n1, n2 + 1, c1, c7, by omega, by go_num, HB2.out.far (p := ⟨g2 + 1, 1, none⟩) (by simp) _, by simpa using HB3.out.set_ 1 (.slice A7 (n2 + 1) c7), by rw [HT0.out]; exact HX7.out.set_other HB3.out (by decide) 1 _, by rw [HT1.out]; unfold nats; rw [List.map_append, intApp]; exact HO7.out.set_other HB3.out (by decide) 1 _, by rw [HT0.out]; exact HN1, by show _ = _; rw [HT1.out, List.length_append, ← HN2.out]; rfl, HD7, by simp [World.setCell]; exact hz7, ⟨hs7.below.setCell (by simp; omega) _⟩⟩
          case measure => simp [intOf]; omega
    · obtain rfl : k = ks.length := by omega
      rw [List.take_length] at O1 O2 HN1 HN2
      obtain ⟨x1, x2⟩ := (⟨HN1.out, HN2.out⟩ : n1 = _ ∧ n2 = _)
      have hl1 : n1 ≤ ks.length := by rw [x1]; exact versL_len _ _
      have hl2 : n2 ≤ ks.length := by rw [x2]; exact versL_len _ _
      have e1 : (nats (versL false ks)).length = n1 := by rw [nats_len]; exact x1.symm
      have e2 : (nats (versL true ks)).length = n2 := by rw [nats_len]; exact x2.symm
      have S1 := fun w' (hw : Own w' (g2 + 2) 3 1 (.slice A1 n1 c1) (intCells (nats (versL false ks)))) => psorted_any (nats (versL false ks)) A1 c1 (g2 + 2) w' (by rw [e1]; exact hw) (by omega)
      have S2 := fun w' (hw : Own w' (g2 + 2) 3 1 (.slice A2 n2 c2) (intCells (nats (versL true ks)))) => psorted_any (nats (versL true ks)) A2 c2 (g2 + 2) w' (by rw [e2]; exact hw) (by omega)
      simp only [e1, ob_eq] at S1
      simp only [e2, ob_eq] at S2
      have S1 := hide S1; have S2 := hide S2
      clear x1 x2 e1 e2
      go_upto_region 11 with (fail)
      obtain ⟨q0, q1⟩ := At.z2 B3.out.at0
      have lq := B3.out.lt
      have f3 := B3.out.free
      refine wp_region_held_drew (S := (fun w' => Step w w' ∧ True)) (by kernel_rfl) (by (try dsimp only); (exact ⟨Step.of, trivial⟩)) (fun hHeld => ?_)
      refine wpAnyH_take (i := 0) (oi := ⟨some 37, _, _, _, _, _⟩) (v := ?_) rfl (by kernel_rfl) (by kernel_rfl) (by kernel_rfl) (fun _ _ _ h => h) (Or.inl ⟨by rfl, ?_⟩) (by assumption) ?_
      rotate_left
      · ((intro w hSw); (try dsimp only at hSw); go_simp; (try with_reducible rfl))
      (try simp only [Act.put, List.setIfInBounds_toArray, List.set_cons_zero, List.set_cons_succ])
      refine wpAnyH_take (i := 3) (oi := ⟨some 40, _, _, _, _, _⟩) (v := ?_) rfl (by kernel_rfl) (by kernel_rfl) (by kernel_rfl) (fun _ _ _ h => h) (Or.inl ⟨by rfl, ?_⟩) (by assumption) ?_
      rotate_left
      · ((intro w hSw); (try dsimp only at hSw); go_simp; (try with_reducible rfl))
      (try simp only [Act.put, List.setIfInBounds_toArray, List.set_cons_zero, List.set_cons_succ])
      refine wpAnyH_ready (rs := [1, 4]) (by kernel_rfl) (by simp) ?_
      refine AllReadyH.cons (o := ⟨some 38, _, _, _, _, _⟩) rfl (fun K hK => ?_) (AllReadyH.cons (o := ⟨some 41, _, _, _, _, _⟩) rfl (fun K hK => ?_) AllReadyH.nil)
      · go_simp
        refine hK.out _ _ (by (try dsimp only); (exact ⟨Step.of, trivial⟩)) (fun hHeld => ?_)
        clear hK K
        (try simp only [Act.put, List.setIfInBounds_toArray, List.set_cons_zero, List.set_cons_succ])
        refine wpAnyH_ready (rs := [2, 4]) (by kernel_rfl) (by simp) ?_
        refine AllReadyH.cons (o := ⟨some 39, _, _, _, _, _⟩) rfl (fun K hK => ?_) (AllReadyH.cons (o := ⟨some 41, _, _, _, _, _⟩) rfl (fun K hK => ?_) AllReadyH.nil)
        · obtain ⟨hS1, hS2⟩ := hHeld
          go_simp
          (go_at_call 43; (with_reducible refine (S1.out _ (O1.out.fut)).mono ?_); rintro e w5 ⟨ys, rfl, r1, m1, l1, o1, g1⟩; replace g1 : wo.grownBy w5 (ob A1) := ⟨g1.os, g1.tape, g1.output, g1.size, fun k hk => g1.block k hk⟩; have hs5 : Step w w5 := ⟨(fut w wo).trans ((below_of_grown O1.out (by rw [ob_eq]; exact g1) hgo).mono (by omega))⟩; have B5 := hide (B3.out.grown g1 (by have := O1.out.ne_ B3.out (by decide); rw [ob_eq] at this; exact this)); have B25 := hide (B2.out.grown g1 (by have := O1.out.ne_ B2.out (by decide); rw [ob_eq] at this; exact this)); have O5 := hide (O2.out.grown_other g1 (fun q hq hh => by rw [ob_eq] at hq; exact HAP.out q hh hq)); have OY := hide o1; have RY := hide r1; have MY := hide m1; have hz5 := g1.size; clear r1 m1 o1 g1; clear q0 q1 lq f3; obtain ⟨q0, q1⟩ := At.z2 B5.out.at0; have lq := B5.out.lt; have f3 := B5.out.free)
          refine hK.out _ _ (by (try dsimp only); (exact ⟨Step.of, trivial⟩)) (fun hHeld => ?_)
          clear hK K
          (try simp only [Act.put, List.setIfInBounds_toArray, List.set_cons_zero, List.set_cons_succ])
          refine wpAnyH_ready (rs := [4]) (by kernel_rfl) (by simp) ?_
          refine AllReadyH.cons (o := ⟨some 41, _, _, _, _, _⟩) rfl (fun K hK => ?_) AllReadyH.nil
          go_simp
          refine hK.out _ _ (by (try dsimp only); (exact ⟨Step.of, trivial⟩)) (fun hHeld => ?_)
          clear hK K
          (try simp only [Act.put, List.setIfInBounds_toArray, List.set_cons_zero, List.set_cons_succ])
          refine wpAnyH_take (i := 6) (oi := ⟨some 43, _, _, _, _, _⟩) (v := ?_) rfl (by kernel_rfl) (by kernel_rfl) (by kernel_rfl) (fun _ _ _ h => h) (Or.inl ⟨by rfl, ?_⟩) (by assumption) ?_
          rotate_left
          · ((intro w hSw); (try dsimp only at hSw); go_simp; (try with_reducible rfl))
          (try simp only [Act.put, List.setIfInBounds_toArray, List.set_cons_zero, List.set_cons_succ])
          refine wpAnyH_ready (rs := [5]) (by kernel_rfl) (by simp) ?_
          refine AllReadyH.cons (o := ⟨some 42, _, _, _, _, _⟩) rfl (fun K hK => ?_) AllReadyH.nil
          obtain ⟨hS1, hS2⟩ := hHeld
          go_simp
          (go_at_call 43; (with_reducible refine (S2.out _ O5.out).mono ?_); rintro e w6 ⟨zs, rfl, r2, m2, l2, o2, g2_⟩; have hs6 : Step w w6 := ⟨(fut w w5).trans ((below_of_grown O5.out (by rw [ob_eq]; exact g2_) (by omega)).mono (by omega))⟩; have B6 := hide (B5.out.grown g2_ (by have := O5.out.ne_ B5.out (by decide); rw [ob_eq] at this; exact this)); have B26 := hide (B25.out.grown g2_ (by have := O5.out.ne_ B25.out (by decide); rw [ob_eq] at this; exact this)); have OY6 := hide (OY.out.grown_other g2_ (fun q hq hh => by rw [ob_eq] at hq; exact HAP.out q hq hh)); have OZ := hide o2; have RZ := hide r2; have MZ := hide m2; clear r2 m2 o2 g2_; clear q0 q1 lq f3; obtain ⟨q0, q1⟩ := At.z2 B6.out.at0; have lq := B6.out.lt; have f3 := B6.out.free)
          refine hK.out _ _ (by (try dsimp only); (exact ⟨Step.of, trivial⟩)) (fun hHeld => ?_)
          clear hK K
          (try simp only [Act.put, List.setIfInBounds_toArray, List.set_cons_zero, List.set_cons_succ])
          refine wpAnyH_ready (rs := [7]) (by kernel_rfl) (by simp) ?_
          refine AllReadyH.cons (o := ⟨none, _, _, _, _, _⟩) rfl (fun K hK => ?_) AllReadyH.nil
          go_simp
          refine hK.out _ _ (by (try dsimp only); (exact ⟨⟨hs6.below.setCell (p := ⟨g2 + 1, 0, none⟩) (by simp; omega) _⟩, trivial⟩)) (fun hHeld => ?_)
          clear hK K
          (try simp only [Act.put, List.setIfInBounds_toArray, List.set_cons_zero, List.set_cons_succ])
          refine wpAnyH_take (i := 8) (oi := ⟨some 44, _, _, _, _, _⟩) (v := ?_) rfl (by kernel_rfl) (by kernel_rfl) (by kernel_rfl) (fun _ _ _ h => h) (Or.inl ⟨by rfl, ?_⟩) (by assumption) ?_
          rotate_left
          · ((intro w hSw); (try dsimp only at hSw); go_simp; (try with_reducible rfl))
          (try simp only [Act.put, List.setIfInBounds_toArray, List.set_cons_zero, List.set_cons_succ])
          refine wpAnyH_ready (rs := [9]) (by kernel_rfl) (by simp) ?_
          refine AllReadyH.cons (o := ⟨none, _, _, _, _, _⟩) rfl (fun K hK => ?_) AllReadyH.nil
          go_simp
          refine hK.out _ _ (by (try dsimp only); (exact ⟨⟨(hs6.below.setCell (p := ⟨g2 + 1, 0, none⟩) (by simp; omega) _).setCell (p := ⟨g2 + 1, 1, none⟩) (by simp; omega) _⟩, trivial⟩)) (fun hHeld => ?_)
          clear hK K
          (try simp only [Act.put, List.setIfInBounds_toArray, List.set_cons_zero, List.set_cons_succ])
          refine wpAnyH_done (by kernel_rfl) ?_ _
          clear hHeld
          have T6 := hide ((B6.out.set_ 0 (.slice A1 ys.length c1)).set_ 1 (.slice A2 zs.length c2))
          have U6 := hide ((B26.out.far (p := ⟨g2 + 1, 0, none⟩) (by simp) (.slice A1 ys.length c1)).far (p := ⟨g2 + 1, 1, none⟩) (by simp) (.slice A2 zs.length c2))
          have Y6 := hide ((OY6.out.set_other B6.out (by decide) 0 (.slice A1 ys.length c1)).set_other (B6.out.set_ 0 (.slice A1 ys.length c1)) (by decide) 1 (.slice A2 zs.length c2))
          have Z6 := hide ((OZ.out.set_other B6.out (by decide) 0 (.slice A1 ys.length c1)).set_other (B6.out.set_ 0 (.slice A1 ys.length c1)) (by decide) 1 (.slice A2 zs.length c2))
          obtain ⟨X, hX⟩ : ∃ x : World, x = (w6.setCell ⟨g2 + 1, 0, none⟩ (.slice A1 ys.length c1)).setCell ⟨g2 + 1, 1, none⟩ (.slice A2 zs.length c2) := ⟨_, rfl⟩
          have SX : Step w X := by rw [hX]; exact ⟨(hs6.below.setCell (p := ⟨g2 + 1, 0, none⟩) (by simp; omega) _).setCell (p := ⟨g2 + 1, 1, none⟩) (by simp; omega) _⟩
          rw [← hX] at T6 U6 Y6 Z6
          rw [← hX]
          clear hX q0 q1 lq f3
          obtain ⟨q0, q1⟩ := At.z2 T6.out.at0
          have lq := T6.out.lt
          obtain ⟨u0, u1⟩ := At.z2 U6.out.at0
          have lu := U6.out.lt
          have fu := U6.out.free
          go_wp2_with fail
          have W2 := hide ((U6.out.set_ 0 (.slice A1 ys.length c1)).set_ 1 (.slice A2 zs.length c2))
          have Y7 := hide ((Y6.out.set_other U6.out (by decide) 0 (.slice A1 ys.length c1)).set_other (U6.out.set_ 0 (.slice A1 ys.length c1)) (by decide) 1 (.slice A2 zs.length c2))
          have Z7 := hide ((Z6.out.set_other U6.out (by decide) 0 (.slice A1 ys.length c1)).set_other (U6.out.set_ 0 (.slice A1 ys.length c1)) (by decide) 1 (.slice A2 zs.length c2))
          obtain ⟨t0, t1⟩ := At.z2 W2.out.at0
          refine bodyPost_ret (v := .agg #[.slice A1 ys.length c1, .slice A2 zs.length c2]) (by simp [results, Tryz.results25, go_sem, t0, t1]) rfl ?_
          exact ⟨ys, zs, A1, A2, c1, c2, rfl, ⟨Y7.out.sl (int_fit _).len, RY.out, fun x => (MY.out x).trans nats_mem, by omega⟩, ⟨Z7.out.sl (int_fit _).len, RZ.out, fun x => (MZ.out x).trans nats_mem, by omega⟩, ⟨(SX.below.setCell (p := ⟨g2, 0, none⟩) hgw _).setCell (p := ⟨g2, 1, none⟩) hgw _⟩⟩
        · go_simp
          refine hK.out _ _ (by (try dsimp only); (exact ⟨Step.of, trivial⟩)) (fun hHeld => ?_)
          clear hK K
          (try simp only [Act.put, List.setIfInBounds_toArray, List.set_cons_zero, List.set_cons_succ])
          refine wpAnyH_ready (rs := [2]) (by kernel_rfl) (by simp) ?_
          refine AllReadyH.cons (o := ⟨some 39, _, _, _, _, _⟩) rfl (fun K hK => ?_) AllReadyH.nil
          obtain ⟨hS1, hS2⟩ := hHeld
          go_simp
          (go_at_call 43; (with_reducible refine (S1.out _ (O1.out.fut)).mono ?_); rintro e w5 ⟨ys, rfl, r1, m1, l1, o1, g1⟩; replace g1 : wo.grownBy w5 (ob A1) := ⟨g1.os, g1.tape, g1.output, g1.size, fun k hk => g1.block k hk⟩; have hs5 : Step w w5 := ⟨(fut w wo).trans ((below_of_grown O1.out (by rw [ob_eq]; exact g1) hgo).mono (by omega))⟩; have B5 := hide (B3.out.grown g1 (by have := O1.out.ne_ B3.out (by decide); rw [ob_eq] at this; exact this)); have B25 := hide (B2.out.grown g1 (by have := O1.out.ne_ B2.out (by decide); rw [ob_eq] at this; exact this)); have O5 := hide (O2.out.grown_other g1 (fun q hq hh => by rw [ob_eq] at hq; exact HAP.out q hh hq)); have OY := hide o1; have RY := hide r1; have MY := hide m1; have hz5 := g1.size; clear r1 m1 o1 g1; clear q0 q1 lq f3; obtain ⟨q0, q1⟩ := At.z2 B5.out.at0; have lq := B5.out.lt; have f3 := B5.out.free)
          refine hK.out _ _ (by (try dsimp only); (exact ⟨Step.of, trivial⟩)) (fun hHeld => ?_)
          clear hK K
          (try simp only [Act.put, List.setIfInBounds_toArray, List.set_cons_zero, List.set_cons_succ])
          refine wpAnyH_take (i := 6) (oi := ⟨some 43, _, _, _, _, _⟩) (v := ?_) rfl (by kernel_rfl) (by kernel_rfl) (by kernel_rfl) (fun _ _ _ h => h) (Or.inl ⟨by rfl, ?_⟩) (by assumption) ?_
          rotate_left
          · ((intro w hSw); (try dsimp only at hSw); go_simp; (try with_reducible rfl))
          (try simp only [Act.put, List.setIfInBounds_toArray, List.set_cons_zero, List.set_cons_succ])
          refine wpAnyH_ready (rs := [5]) (by kernel_rfl) (by simp) ?_
          refine AllReadyH.cons (o := ⟨some 42, _, _, _, _, _⟩) rfl (fun K hK => ?_) AllReadyH.nil
          obtain ⟨hS1, hS2⟩ := hHeld
          go_simp
          (go_at_call 43; (with_reducible refine (S2.out _ O5.out).mono ?_); rintro e w6 ⟨zs, rfl, r2, m2, l2, o2, g2_⟩; have hs6 : Step w w6 := ⟨(fut w w5).trans ((below_of_grown O5.out (by rw [ob_eq]; exact g2_) (by omega)).mono (by omega))⟩; have B6 := hide (B5.out.grown g2_ (by have := O5.out.ne_ B5.out (by decide); rw [ob_eq] at this; exact this)); have B26 := hide (B25.out.grown g2_ (by have := O5.out.ne_ B25.out (by decide); rw [ob_eq] at this; exact this)); have OY6 := hide (OY.out.grown_other g2_ (fun q hq hh => by rw [ob_eq] at hq; exact HAP.out q hq hh)); have OZ := hide o2; have RZ := hide r2; have MZ := hide m2; clear r2 m2 o2 g2_; clear q0 q1 lq f3; obtain ⟨q0, q1⟩ := At.z2 B6.out.at0; have lq := B6.out.lt; have f3 := B6.out.free)
          refine hK.out _ _ (by (try dsimp only); (exact ⟨Step.of, trivial⟩)) (fun hHeld => ?_)
          clear hK K
          (try simp only [Act.put, List.setIfInBounds_toArray, List.set_cons_zero, List.set_cons_succ])
          refine wpAnyH_ready (rs := [7]) (by kernel_rfl) (by simp) ?_
          refine AllReadyH.cons (o := ⟨none, _, _, _, _, _⟩) rfl (fun K hK => ?_) AllReadyH.nil
          go_simp
          refine hK.out _ _ (by (try dsimp only); (exact ⟨⟨hs6.below.setCell (p := ⟨g2 + 1, 0, none⟩) (by simp; omega) _⟩, trivial⟩)) (fun hHeld => ?_)
          clear hK K
          (try simp only [Act.put, List.setIfInBounds_toArray, List.set_cons_zero, List.set_cons_succ])
          refine wpAnyH_take (i := 8) (oi := ⟨some 44, _, _, _, _, _⟩) (v := ?_) rfl (by kernel_rfl) (by kernel_rfl) (by kernel_rfl) (fun _ _ _ h => h) (Or.inl ⟨by rfl, ?_⟩) (by assumption) ?_
          rotate_left
          · ((intro w hSw); (try dsimp only at hSw); go_simp; (try with_reducible rfl))
          (try simp only [Act.put, List.setIfInBounds_toArray, List.set_cons_zero, List.set_cons_succ])
          refine wpAnyH_ready (rs := [9]) (by kernel_rfl) (by simp) ?_
          refine AllReadyH.cons (o := ⟨none, _, _, _, _, _⟩) rfl (fun K hK => ?_) AllReadyH.nil
          go_simp
          refine hK.out _ _ (by (try dsimp only); (exact ⟨⟨(hs6.below.setCell (p := ⟨g2 + 1, 0, none⟩) (by simp; omega) _).setCell (p := ⟨g2 + 1, 1, none⟩) (by simp; omega) _⟩, trivial⟩)) (fun hHeld => ?_)
          clear hK K
          (try simp only [Act.put, List.setIfInBounds_toArray, List.set_cons_zero, List.set_cons_succ])
          refine wpAnyH_done (by kernel_rfl) ?_ _
          clear hHeld
          have T6 := hide ((B6.out.set_ 0 (.slice A1 ys.length c1)).set_ 1 (.slice A2 zs.length c2))
          have U6 := hide ((B26.out.far (p := ⟨g2 + 1, 0, none⟩) (by simp) (.slice A1 ys.length c1)).far (p := ⟨g2 + 1, 1, none⟩) (by simp) (.slice A2 zs.length c2))
          have Y6 := hide ((OY6.out.set_other B6.out (by decide) 0 (.slice A1 ys.length c1)).set_other (B6.out.set_ 0 (.slice A1 ys.length c1)) (by decide) 1 (.slice A2 zs.length c2))
          have Z6 := hide ((OZ.out.set_other B6.out (by decide) 0 (.slice A1 ys.length c1)).set_other (B6.out.set_ 0 (.slice A1 ys.length c1)) (by decide) 1 (.slice A2 zs.length c2))
          obtain ⟨X, hX⟩ : ∃ x : World, x = (w6.setCell ⟨g2 + 1, 0, none⟩ (.slice A1 ys.length c1)).setCell ⟨g2 + 1, 1, none⟩ (.slice A2 zs.length c2) := ⟨_, rfl⟩
          have SX : Step w X := by rw [hX]; exact ⟨(hs6.below.setCell (p := ⟨g2 + 1, 0, none⟩) (by simp; omega) _).setCell (p := ⟨g2 + 1, 1, none⟩) (by simp; omega) _⟩
          rw [← hX] at T6 U6 Y6 Z6
          rw [← hX]
          clear hX q0 q1 lq f3
          obtain ⟨q0, q1⟩ := At.z2 T6.out.at0
          have lq := T6.out.lt
          obtain ⟨u0, u1⟩ := At.z2 U6.out.at0
          have lu := U6.out.lt
          have fu := U6.out.free
          go_wp2_with fail
          have W2 := hide ((U6.out.set_ 0 (.slice A1 ys.length c1)).set_ 1 (.slice A2 zs.length c2))
          have Y7 := hide ((Y6.out.set_other U6.out (by decide) 0 (.slice A1 ys.length c1)).set_other (U6.out.set_ 0 (.slice A1 ys.length c1)) (by decide) 1 (.slice A2 zs.length c2))
          have Z7 := hide ((Z6.out.set_other U6.out (by decide) 0 (.slice A1 ys.length c1)).set_other (U6.out.set_ 0 (.slice A1 ys.length c1)) (by decide) 1 (.slice A2 zs.length c2))
          obtain ⟨t0, t1⟩ := At.z2 W2.out.at0
          refine bodyPost_ret (v := .agg #[.slice A1 ys.length c1, .slice A2 zs.length c2]) (by simp [results, Tryz.results25, go_sem, t0, t1]) rfl ?_
          exact ⟨ys, zs, A1, A2, c1, c2, rfl, ⟨Y7.out.sl (int_fit _).len, RY.out, fun x => (MY.out x).trans nats_mem, by omega⟩, ⟨Z7.out.sl (int_fit _).len, RZ.out, fun x => (MZ.out x).trans nats_mem, by omega⟩, ⟨(SX.below.setCell (p := ⟨g2, 0, none⟩) hgw _).setCell (p := ⟨g2, 1, none⟩) hgw _⟩⟩
      · go_simp
        refine hK.out _ _ (by (try dsimp only); (exact ⟨Step.of, trivial⟩)) (fun hHeld => ?_)
        clear hK K
        (try simp only [Act.put, List.setIfInBounds_toArray, List.set_cons_zero, List.set_cons_succ])
        refine wpAnyH_ready (rs := [1]) (by kernel_rfl) (by simp) ?_
        refine AllReadyH.cons (o := ⟨some 38, _, _, _, _, _⟩) rfl (fun K hK => ?_) AllReadyH.nil
        go_simp
        refine hK.out _ _ (by (try dsimp only); (exact ⟨Step.of, trivial⟩)) (fun hHeld => ?_)
        clear hK K
        (try simp only [Act.put, List.setIfInBounds_toArray, List.set_cons_zero, List.set_cons_succ])
        refine wpAnyH_ready (rs := [2]) (by kernel_rfl) (by simp) ?_
        refine AllReadyH.cons (o := ⟨some 39, _, _, _, _, _⟩) rfl (fun K hK => ?_) AllReadyH.nil
        obtain ⟨hS1, hS2⟩ := hHeld
        go_simp
        (go_at_call 43; (with_reducible refine (S1.out _ (O1.out.fut)).mono ?_); rintro e w5 ⟨ys, rfl, r1, m1, l1, o1, g1⟩; replace g1 : wo.grownBy w5 (ob A1) := ⟨g1.os, g1.tape, g1.output, g1.size, fun k hk => g1.block k hk⟩; have hs5 : Step w w5 := ⟨(fut w wo).trans ((below_of_grown O1.out (by rw [ob_eq]; exact g1) hgo).mono (by omega))⟩; have B5 := hide (B3.out.grown g1 (by have := O1.out.ne_ B3.out (by decide); rw [ob_eq] at this; exact this)); have B25 := hide (B2.out.grown g1 (by have := O1.out.ne_ B2.out (by decide); rw [ob_eq] at this; exact this)); have O5 := hide (O2.out.grown_other g1 (fun q hq hh => by rw [ob_eq] at hq; exact HAP.out q hh hq)); have OY := hide o1; have RY := hide r1; have MY := hide m1; have hz5 := g1.size; clear r1 m1 o1 g1; clear q0 q1 lq f3; obtain ⟨q0, q1⟩ := At.z2 B5.out.at0; have lq := B5.out.lt; have f3 := B5.out.free)
        refine hK.out _ _ (by (try dsimp only); (exact ⟨Step.of, trivial⟩)) (fun hHeld => ?_)
        clear hK K
        (try simp only [Act.put, List.setIfInBounds_toArray, List.set_cons_zero, List.set_cons_succ])
        refine wpAnyH_take (i := 6) (oi := ⟨some 43, _, _, _, _, _⟩) (v := ?_) rfl (by kernel_rfl) (by kernel_rfl) (by kernel_rfl) (fun _ _ _ h => h) (Or.inl ⟨by rfl, ?_⟩) (by assumption) ?_
        rotate_left
        · ((intro w hSw); (try dsimp only at hSw); go_simp; (try with_reducible rfl))
        (try simp only [Act.put, List.setIfInBounds_toArray, List.set_cons_zero, List.set_cons_succ])
        refine wpAnyH_ready (rs := [5]) (by kernel_rfl) (by simp) ?_
        refine AllReadyH.cons (o := ⟨some 42, _, _, _, _, _⟩) rfl (fun K hK => ?_) AllReadyH.nil
        obtain ⟨hS1, hS2⟩ := hHeld
        go_simp
        (go_at_call 43; (with_reducible refine (S2.out _ O5.out).mono ?_); rintro e w6 ⟨zs, rfl, r2, m2, l2, o2, g2_⟩; have hs6 : Step w w6 := ⟨(fut w w5).trans ((below_of_grown O5.out (by rw [ob_eq]; exact g2_) (by omega)).mono (by omega))⟩; have B6 := hide (B5.out.grown g2_ (by have := O5.out.ne_ B5.out (by decide); rw [ob_eq] at this; exact this)); have B26 := hide (B25.out.grown g2_ (by have := O5.out.ne_ B25.out (by decide); rw [ob_eq] at this; exact this)); have OY6 := hide (OY.out.grown_other g2_ (fun q hq hh => by rw [ob_eq] at hq; exact HAP.out q hq hh)); have OZ := hide o2; have RZ := hide r2; have MZ := hide m2; clear r2 m2 o2 g2_; clear q0 q1 lq f3; obtain ⟨q0, q1⟩ := At.z2 B6.out.at0; have lq := B6.out.lt; have f3 := B6.out.free)
        refine hK.out _ _ (by (try dsimp only); (exact ⟨Step.of, trivial⟩)) (fun hHeld => ?_)
        clear hK K
        (try simp only [Act.put, List.setIfInBounds_toArray, List.set_cons_zero, List.set_cons_succ])
        refine wpAnyH_ready (rs := [7]) (by kernel_rfl) (by simp) ?_
        refine AllReadyH.cons (o := ⟨none, _, _, _, _, _⟩) rfl (fun K hK => ?_) AllReadyH.nil
        go_simp
        refine hK.out _ _ (by (try dsimp only); (exact ⟨⟨hs6.below.setCell (p := ⟨g2 + 1, 0, none⟩) (by simp; omega) _⟩, trivial⟩)) (fun hHeld => ?_)
        clear hK K
        (try simp only [Act.put, List.setIfInBounds_toArray, List.set_cons_zero, List.set_cons_succ])
        refine wpAnyH_take (i := 8) (oi := ⟨some 44, _, _, _, _, _⟩) (v := ?_) rfl (by kernel_rfl) (by kernel_rfl) (by kernel_rfl) (fun _ _ _ h => h) (Or.inl ⟨by rfl, ?_⟩) (by assumption) ?_
        rotate_left
        · ((intro w hSw); (try dsimp only at hSw); go_simp; (try with_reducible rfl))
        (try simp only [Act.put, List.setIfInBounds_toArray, List.set_cons_zero, List.set_cons_succ])
        refine wpAnyH_ready (rs := [9]) (by kernel_rfl) (by simp) ?_
        refine AllReadyH.cons (o := ⟨none, _, _, _, _, _⟩) rfl (fun K hK => ?_) AllReadyH.nil
        go_simp
        refine hK.out _ _ (by (try dsimp only); (exact ⟨⟨(hs6.below.setCell (p := ⟨g2 + 1, 0, none⟩) (by simp; omega) _).setCell (p := ⟨g2 + 1, 1, none⟩) (by simp; omega) _⟩, trivial⟩)) (fun hHeld => ?_)
        clear hK K
        (try simp only [Act.put, List.setIfInBounds_toArray, List.set_cons_zero, List.set_cons_succ])
        refine wpAnyH_done (by kernel_rfl) ?_ _
        clear hHeld
        have T6 := hide ((B6.out.set_ 0 (.slice A1 ys.length c1)).set_ 1 (.slice A2 zs.length c2))
        have U6 := hide ((B26.out.far (p := ⟨g2 + 1, 0, none⟩) (by simp) (.slice A1 ys.length c1)).far (p := ⟨g2 + 1, 1, none⟩) (by simp) (.slice A2 zs.length c2))
        have Y6 := hide ((OY6.out.set_other B6.out (by decide) 0 (.slice A1 ys.length c1)).set_other (B6.out.set_ 0 (.slice A1 ys.length c1)) (by decide) 1 (.slice A2 zs.length c2))
        have Z6 := hide ((OZ.out.set_other B6.out (by decide) 0 (.slice A1 ys.length c1)).set_other (B6.out.set_ 0 (.slice A1 ys.length c1)) (by decide) 1 (.slice A2 zs.length c2))
        obtain ⟨X, hX⟩ : ∃ x : World, x = (w6.setCell ⟨g2 + 1, 0, none⟩ (.slice A1 ys.length c1)).setCell ⟨g2 + 1, 1, none⟩ (.slice A2 zs.length c2) := ⟨_, rfl⟩
        have SX : Step w X := by rw [hX]; exact ⟨(hs6.below.setCell (p := ⟨g2 + 1, 0, none⟩) (by simp; omega) _).setCell (p := ⟨g2 + 1, 1, none⟩) (by simp; omega) _⟩
        rw [← hX] at T6 U6 Y6 Z6
        rw [← hX]
        clear hX q0 q1 lq f3
        obtain ⟨q0, q1⟩ := At.z2 T6.out.at0
        have lq := T6.out.lt
        obtain ⟨u0, u1⟩ := At.z2 U6.out.at0
        have lu := U6.out.lt
        have fu := U6.out.free
        go_wp2_with fail
        have W2 := hide ((U6.out.set_ 0 (.slice A1 ys.length c1)).set_ 1 (.slice A2 zs.length c2))
        have Y7 := hide ((Y6.out.set_other U6.out (by decide) 0 (.slice A1 ys.length c1)).set_other (U6.out.set_ 0 (.slice A1 ys.length c1)) (by decide) 1 (.slice A2 zs.length c2))
        have Z7 := hide ((Z6.out.set_other U6.out (by decide) 0 (.slice A1 ys.length c1)).set_other (U6.out.set_ 0 (.slice A1 ys.length c1)) (by decide) 1 (.slice A2 zs.length c2))
        obtain ⟨t0, t1⟩ := At.z2 W2.out.at0
        refine bodyPost_ret (v := .agg #[.slice A1 ys.length c1, .slice A2 zs.length c2]) (by simp [results, Tryz.results25, go_sem, t0, t1]) rfl ?_
        exact ⟨ys, zs, A1, A2, c1, c2, rfl, ⟨Y7.out.sl (int_fit _).len, RY.out, fun x => (MY.out x).trans nats_mem, by omega⟩, ⟨Z7.out.sl (int_fit _).len, RZ.out, fun x => (MZ.out x).trans nats_mem, by omega⟩, ⟨(SX.below.setCell (p := ⟨g2, 0, none⟩) hgw _).setCell (p := ⟨g2, 1, none⟩) hgw _⟩⟩
end Go.Proofs.YtlcimfabimfekaaGreatDoor
