/-
  JSON values of one content are the same.
-/
import Derived.Test.YtoibfefalflooaaDoorJ3
namespace Go.Proofs.YtoibfefalflooaaDoor
open Go.RowKit

def SAM (t : T) : Prop := ∀ (u : T) (w : World), RdT w t → RdT w u → t.j = u.j → Calls Tryd.prog 12 #[.agg t.cells.toArray, .agg u.cells.toArray] w fun e w' => e = .returned (.bool true) ∧ Step w w'

set_option maxRecDepth 100000 in
set_option maxHeartbeats 16000000 in
theorem same_of (K : Int) (b : Bool) (n : Int) (s : ByteArray) (ks : List ByteArray) (nl nk : Nat) (xA : Option Addr) (xc : Nat) (xl : List T) (xAK : Option Addr) (xcK : Nat) (yA : Option Addr) (yc : Nat) (yl : List T) (yAK : Option Addr) (ycK : Nat)
    (hx : xl.length = nl) (hy : yl.length = nl) (hk : ks.length = nk) (hj : T.js xl = T.js yl) (IH : ∀ t ∈ xl, SAM t) (w : World) (hlc : nl ≤ 1599289640401) (hnk : nk ≤ 8796093022208)
    (hxA : SlAt w w.heap.size 6 xA (xl.map T.cells)) (hxK : SlAt w w.heap.size 1 xAK (strCells ks)) (hxr : RdTs w xl) (hyA : SlAt w w.heap.size 6 yA (yl.map T.cells)) (hyK : SlAt w w.heap.size 1 yAK (strCells ks)) (hyr : RdTs w yl) :
    Calls Tryd.prog 12 #[.agg #[.int .i64 K, .bool b, .int .i64 n, .string s, .slice xA nl xc, .slice xAK nk xcK], .agg #[.int .i64 K, .bool b, .int .i64 n, .string s, .slice yA nl yc, .slice yAK nk ycK]] w fun e w' => e = .returned (.bool true) ∧ Step w w' := by
  have HX := hide hx; have HY := hide hy; have HK := hide hk; have HJ := hide hj; have HIH := hide IH; have HXA := hide hxA; have HXK := hide hxK; have HXR := hide hxr; have HYA := hide hyA; have HYK := hide hyK; have HYR := hide hyr
  obtain ⟨W, hW⟩ : ∃ W : World, W = (w.alloc (.cells #[.int .i64 K, .bool b, .int .i64 n, .string s, .slice xA nl xc, .slice xAK nk xcK] 25)).alloc (.cells #[.int .i64 K, .bool b, .int .i64 n, .string s, .slice yA nl yc, .slice yAK nk ycK] 25) := ⟨_, rfl⟩
  have HB : Hid (Blk W w.heap.size 25 [.int .i64 K, .bool b, .int .i64 n, .string s, .slice xA nl xc, .slice xAK nk xcK]) := by rw [hW]; exact (Blk.new w _ 25).alloc _
  have HD : Hid (Blk W (w.heap.size + 1) 25 [.int .i64 K, .bool b, .int .i64 n, .string s, .slice yA nl yc, .slice yAK nk ycK]) := by rw [hW]; exact Blk.new_at (by simp) _ 25
  have SW : Step w W := by rw [hW]; exact Step.of
  obtain ⟨bb, hbb⟩ : ∃ n, w.heap.size = n := ⟨_, rfl⟩
  have HBE := hide hbb
  rw [hbb] at HB HD
  clear hx hy hk hj IH hxA hxK hxr hyA hyK hyr
  go_enter Tryd.func12, Tryd.ntmps12
  go_upto_region 1 with fail
  rw [← hW]
  obtain ⟨c0, c1, c2, c3, c4, c5⟩ := At.z6 HB.out.at0
  have lc := HB.out.lt
  obtain ⟨d0, d1, d2, d3, d4, d5⟩ := At.z6 HD.out.at0
  have ld := HD.out.lt
  clear hW hbb
  go_wp2_with fail
  clear c0 c1 c2 c3 c4 c5 d0 d1 d2 d3 d4 d5
  go_loopw [5] (fun v5 wr => ∃ k : Nat, k ≤ nk ∧ v5 = .int .i64 k ∧ Step W wr) (fun v5 _ => nk - (intOf v5).toNat)
  case atStart => exact ⟨0, Nat.zero_le _, rfl, Step.of⟩
  case round =>
    obtain ⟨k, hk, rfl, hst⟩ := hrel
    obtain ⟨wo, rfl⟩ : ∃ x : World, x = wr := ⟨_, rfl⟩
    have hb := HB.out.fut (w' := wo); have hd := HD.out.fut (w' := wo)
    obtain ⟨c0, c1, c2, c3, c4, c5⟩ := At.z6 hb.at0
    have lc := hb.lt
    obtain ⟨d0, d1, d2, d3, d4, d5⟩ := At.z6 hd.at0
    have ld := hd.lt
    by_cases hlt : k < nk
    · have hkl : (k : Int) < (nk : Int) := by omega
      have hk0 : (0 : Int) ≤ (k : Int) := by omega
      obtain ⟨bK, oK, q, rfl, hbK, hq, hcell⟩ := str_at HXK.out (w := wo) inferInstance (k := k) (by rw [HK.out]; exact hlt)
      obtain ⟨bL, oL, q2, rfl, hbL, hq2, hcell2⟩ := str_at HYK.out (w := wo) inferInstance (k := k) (by rw [HK.out]; exact hlt)
      obtain rfl : q = q2 := by rw [hq] at hq2; injection hq2
      clear hq hq2 hb hd
      go_wp2_with fail
      go_quiet (fail)
      go_wp2_with fail
      go_roundw
      case rel => exact ⟨k + 1, by omega, by go_num, Step.of⟩
      case measure => simp [intOf]; omega
    · obtain rfl : k = nk := by omega
      clear hlt hb hd
      go_wp2_with fail
      clear c0 c1 c2 c3 c4 c5 d0 d1 d2 d3 d4 d5
      obtain ⟨W1, rfl⟩ : ∃ x : World, x = wo := ⟨_, rfl⟩
      have HB1 := hide (HB.out.fut (w' := W1)); have HD1 := hide (HD.out.fut (w' := W1))
      go_loopw [6] (fun v6 wr => ∃ k : Nat, k ≤ nl ∧ v6 = .int .i64 k ∧ Step W1 wr) (fun v6 _ => nl - (intOf v6).toNat)
      case atStart => exact ⟨0, Nat.zero_le _, rfl, Step.of⟩
      case round =>
        obtain ⟨k, hk, rfl, hst2⟩ := hrel
        obtain ⟨wo, rfl⟩ : ∃ x : World, x = wr := ⟨_, rfl⟩
        have hb := HB1.out.fut (w' := wo); have hd := HD1.out.fut (w' := wo)
        obtain ⟨c0, c1, c2, c3, c4, c5⟩ := At.z6 hb.at0
        have lc := hb.lt
        obtain ⟨d0, d1, d2, d3, d4, d5⟩ := At.z6 hd.at0
        have ld := hd.lt
        by_cases hlt : k < nl
        · have hkl : (k : Int) < (nl : Int) := by omega
          have hk0 : (0 : Int) ≤ (k : Int) := by omega
          have fw : Fut w wo := inferInstance
          obtain ⟨b1, o1, rfl, hb1, hc1⟩ := HXA.out.elem fw (k := k) (by rw [List.length_map, HX.out]; exact hlt)
          obtain ⟨b2, o2, rfl, hb2, hc2⟩ := HYA.out.elem fw (k := k) (by rw [List.length_map, HY.out]; exact hlt)
          obtain ⟨t, ht⟩ : ∃ t, xl[k]? = some t := ⟨_, List.getElem?_eq_getElem (by rw [HX.out]; exact hlt)⟩
          obtain ⟨u, hu⟩ : ∃ u, yl[k]? = some u := ⟨_, List.getElem?_eq_getElem (by rw [HY.out]; exact hlt)⟩
          have htu : t.j = u.j := by
            have h3 : (T.js xl)[k]? = some t.j := by rw [js_map, List.getElem?_map, ht]; rfl
            have h4 : (T.js yl)[k]? = some u.j := by rw [js_map, List.getElem?_map, hu]; rfl
            rw [HJ.out, h4] at h3
            injection h3 with h3
            exact h3.symm
          have ha1 := hc1 k _ (by rw [List.getElem?_map, ht]; rfl)
          have ha2 := hc2 k _ (by rw [List.getElem?_map, hu]; rfl)
          have hr1 := HXR.out.get ht
          have hr2 := HYR.out.get hu
          have sj := fun (w' : World) (hf : Fut w w') => HIH.out t (List.mem_of_getElem? ht) u w' (RdT.fut hr1) (RdT.fut hr2) htu
          cases t with
          | mk k1 t1 n1 s1 A1 c1_ l1 AK1 cK1 ks1 =>
          cases u with
          | mk k2 t2 n2 s2 A2 c2_ l2 AK2 cK2 ks2 =>
          simp only [T.cells] at sj ha1 ha2
          obtain ⟨a1, a2, a3, a4, a5, a6⟩ := At.o6 ha1
          obtain ⟨e1, e2, e3, e4, e5, e6⟩ := At.o6 ha2
          have SJ := hide sj
          have l1 : b1 < wo.heap.size := Nat.lt_of_lt_of_le hb1 fw.below.size
          have l2 : b2 < wo.heap.size := Nat.lt_of_lt_of_le hb2 fw.below.size
          clear hc1 hc2 ha1 ha2 hr1 hr2 sj htu ht hu hb hd
          go_upto_region 11 with (fail)
          refine wp_region_held_drew (S := (fun w' => Step wo w' ∧ (∀ b o, b < wo.heap.size → w'.cell? ⟨b, o, none⟩ = wo.cell? ⟨b, o, none⟩))) (by kernel_rfl) (by (try dsimp only); (first | exact ⟨hS1, hS2⟩ | exact ⟨Step.of, (bcell (fut _ _)).1⟩)) (fun hHeld => ?_)
          refine wpAnyH_take (i := 0) (oi := ⟨some 76, _, _, _, _, _⟩) (v := ?_) rfl (by kernel_rfl) (by kernel_rfl) (by kernel_rfl) (fun _ _ _ h => h) (Or.inl ⟨by rfl, ?_⟩) (by assumption) ?_
          rotate_left
          · ((intro w hSw); (try dsimp only at hSw); go_simp; (try with_reducible rfl))
          (try simp only [Act.put, List.setIfInBounds_toArray, List.set_cons_zero, List.set_cons_succ])
          refine wpAnyH_take (i := 2) (oi := ⟨some 78, _, _, _, _, _⟩) (v := ?_) rfl (by kernel_rfl) (by kernel_rfl) (by kernel_rfl) (fun _ _ _ h => h) (Or.inl ⟨by rfl, ?_⟩) (by assumption) ?_
          rotate_left
          · ((intro w hSw); (try dsimp only at hSw); go_simp; (try with_reducible rfl))
          (try simp only [Act.put, List.setIfInBounds_toArray, List.set_cons_zero, List.set_cons_succ])
          refine wpAnyH_take (i := 5) (oi := ⟨some 81, _, _, _, _, _⟩) (v := ?_) rfl (by kernel_rfl) (by kernel_rfl) (by kernel_rfl) (fun _ _ _ h => h) (Or.inl ⟨by rfl, ?_⟩) (by assumption) ?_
          rotate_left
          · ((intro w hSw); (try dsimp only at hSw); go_simp; (try with_reducible rfl))
          (try simp only [Act.put, List.setIfInBounds_toArray, List.set_cons_zero, List.set_cons_succ])
          refine wpAnyH_take (i := 7) (oi := ⟨some 83, _, _, _, _, _⟩) (v := ?_) rfl (by kernel_rfl) (by kernel_rfl) (by kernel_rfl) (fun _ _ _ h => h) (Or.inl ⟨by rfl, ?_⟩) (by assumption) ?_
          rotate_left
          · ((intro w hSw); (try dsimp only at hSw); go_simp; (try with_reducible rfl))
          (try simp only [Act.put, List.setIfInBounds_toArray, List.set_cons_zero, List.set_cons_succ])
          refine wpAnyH_take (i := 1) (oi := ⟨some 77, _, _, _, _, _⟩) (v := ?_) rfl (by kernel_rfl) (by kernel_rfl) (by kernel_rfl) (fun _ _ _ h => h) (Or.inl ⟨by rfl, ?_⟩) (by assumption) ?_
          rotate_left
          · ((intro w hSw); (try dsimp only at hSw); go_simp; (try with_reducible rfl))
          (try simp only [Act.put, List.setIfInBounds_toArray, List.set_cons_zero, List.set_cons_succ])
          refine wpAnyH_take (i := 6) (oi := ⟨some 82, _, _, _, _, _⟩) (v := ?_) rfl (by kernel_rfl) (by kernel_rfl) (by kernel_rfl) (fun _ _ _ h => h) (Or.inl ⟨by rfl, ?_⟩) (by assumption) ?_
          rotate_left
          · ((intro w hSw); (try dsimp only at hSw); go_simp; (try with_reducible rfl))
          (try simp only [Act.put, List.setIfInBounds_toArray, List.set_cons_zero, List.set_cons_succ])
          refine wpAnyH_take (i := 3) (oi := ⟨some 79, _, _, _, _, _⟩) (v := ?_) rfl (by kernel_rfl) (by kernel_rfl) (by kernel_rfl) (fun _ _ _ h => h) (Or.inl ⟨by rfl, ?_⟩) (by assumption) ?_
          rotate_left
          · ((intro w hSw); (try dsimp only at hSw); go_simp; (try with_reducible rfl))
          (try simp only [Act.put, List.setIfInBounds_toArray, List.set_cons_zero, List.set_cons_succ])
          refine wpAnyH_take (i := 8) (oi := ⟨some 84, _, _, _, _, _⟩) (v := ?_) rfl (by kernel_rfl) (by kernel_rfl) (by kernel_rfl) (fun _ _ _ h => h) (Or.inl ⟨by rfl, ?_⟩) (by assumption) ?_
          rotate_left
          · ((intro w hSw); (try dsimp only at hSw); go_simp; (try with_reducible rfl))
          (try simp only [Act.put, List.setIfInBounds_toArray, List.set_cons_zero, List.set_cons_succ])
          refine wpAnyH_take (i := 4) (oi := ⟨some 80, _, _, _, _, _⟩) (v := ?_) rfl (by kernel_rfl) (by kernel_rfl) (by kernel_rfl) (fun _ _ _ h => h) (Or.inl ⟨by rfl, ?_⟩) (by assumption) ?_
          rotate_left
          · ((intro w hSw); (try dsimp only at hSw); go_simp; (try with_reducible rfl))
          (try simp only [Act.put, List.setIfInBounds_toArray, List.set_cons_zero, List.set_cons_succ])
          refine wpAnyH_take (i := 9) (oi := ⟨some 85, _, _, _, _, _⟩) (v := ?_) rfl (by kernel_rfl) (by kernel_rfl) (by kernel_rfl) (fun _ _ _ h => h) (Or.inl ⟨by rfl, ?_⟩) (by assumption) ?_
          rotate_left
          · ((intro w hSw); (try dsimp only at hSw); go_simp; (try with_reducible rfl))
          (try simp only [Act.put, List.setIfInBounds_toArray, List.set_cons_zero, List.set_cons_succ])
          refine wpAnyH_ready (rs := [10]) (by kernel_rfl) (by simp) ?_
          refine AllReadyH.cons (o := ⟨some 86, _, _, _, _, _⟩) rfl (fun K hK => ?_) AllReadyH.nil
          obtain ⟨hS1, hS2⟩ := hHeld
          go_simp
          (go_at_call 12; (with_reducible refine (SJ.out _ inferInstance).mono ?_); rintro e w5 ⟨rfl, hs5⟩)
          refine hK.out _ _ (by (try dsimp only); (first | exact ⟨hS1, hS2⟩ | exact ⟨Step.of, (bcell (fut _ _)).1⟩)) (fun hHeld => ?_)
          clear hK K
          (try simp only [Act.put, List.setIfInBounds_toArray, List.set_cons_zero, List.set_cons_succ])
          refine wpAnyH_take (i := 11) (oi := ⟨some 87, _, _, _, _, _⟩) (v := ?_) rfl (by kernel_rfl) (by kernel_rfl) (by kernel_rfl) (fun _ _ _ h => h) (Or.inl ⟨by rfl, ?_⟩) (by assumption) ?_
          rotate_left
          · ((intro w hSw); (try dsimp only at hSw); go_simp; (try with_reducible rfl))
          (try simp only [Act.put, List.setIfInBounds_toArray, List.set_cons_zero, List.set_cons_succ])
          refine wpAnyH_done (by kernel_rfl) ?_ _
          go_wp2_with fail
          go_roundw
          case rel => exact ⟨k + 1, by omega, by go_num, Step.of⟩
          case measure => simp [intOf]; omega
        · obtain rfl : k = nl := by omega
          clear hb hd
          go_wp2_with fail
          go_ret
          exact ⟨rfl, Step.of⟩
mutual
theorem same_any : ∀ t : T, SAM t
  | .mk K b n s A c l AK cK ks => fun u w h1 h2 hj => by
    cases u with
    | mk K2 b2 n2 s2 A2 c2 l2 AK2 cK2 ks2 =>
      rw [T.j, T.j] at hj
      injection hj with e1 e2 e3 e4 e5 e6
      subst e1 e2 e3 e4 e6
      rw [RdT] at h1 h2
      have hll : l2.length = l.length := by have := congrArg List.length e5; rw [js_map, js_map, List.length_map, List.length_map] at this; exact this.symm
      have := same_of K b n s ks l.length ks.length A c l AK cK A2 c2 l2 AK2 cK2 rfl hll rfl e5 (sames_any l) w h1.2.2.1.1 h1.2.2.1.2 h1.1 h1.2.1 h1.2.2.2.2.2.2 h2.1 h2.2.1 h2.2.2.2.2.2.2
      simp only [T.cells]
      rw [hll]
      exact this
theorem sames_any : ∀ l : List T, ∀ x ∈ l, SAM x
  | [], x, hx => by cases hx
  | t :: r, x, hx => by
    rcases List.mem_cons.1 hx with h | h
    · rw [h]; exact same_any t
    · exact sames_any r x h
end
end Go.Proofs.YtoibfefalflooaaDoor
