/-
  The program's parser: a list.
-/
import Derived.Test.YtoibfefalflooaaDoorJm
import Derived.Carry
namespace Go.Proofs.YtoibfefalflooaaDoor
open Go.RowKit

theorem set6_grown (w : World) (b : Nat) (a0 a1 a2 a3 a4 a5 : Value) : w.grownBy (set6 w b a0 a1 a2 a3 a4 a5) (some b) :=
  grown_trans (grown_trans (grown_trans (grown_trans (grown_trans (grown_setCell w b 0 a0) (grown_setCell _ b 1 a1)) (grown_setCell _ b 2 a2)) (grown_setCell _ b 3 a3)) (grown_setCell _ b 4 a4)) (grown_setCell _ b 5 a5)
theorem own_zero {w : World} {base : Nat} {e : TypeId} {size : Nat} {v : Value} {l : List (List Value)} (h : Own w base e size v l) : Own w 0 e size v l :=
  ⟨h.1, h.2.imp id fun ⟨g, cap, cur, hv, _, r⟩ => ⟨g, cap, cur, hv, Nat.zero_le _, r⟩⟩
section
variable {g : Nat} {s : ByteArray} {bb : Nat} {K : Int} {w w1 w2 : World} {k : Nat} {l : List T} {ks : List ByteArray} {A : Option Addr} {c nl : Nat} {AK : Option Addr} {cK nk n : Nat} {sk : List ByteArray}
theorem InnAt.pr (h : InnAt g s bb K w w1 k l ks A c nl AK cK nk n sk) : Pr w1 g s k := h.2.2.2.2.2.2.1
theorem InnAt.zer (h : InnAt g s bb K w w1 k l ks A c nl AK cK nk n sk) : Blk w1 bb 25 zeroC := h.2.2.2.2.1
theorem InnAt.size (h : InnAt g s bb K w w1 k l ks A c nl AK cK nk n sk) : bb + 3 ≤ w1.heap.size := h.2.2.2.2.2.2.2.2.1
theorem InnAt.mvd (h : InnAt g s bb K w w1 k l ks A c nl AK cK nk n sk) : Mv g w w1 := h.2.2.2.2.2.2.2.1
theorem InnAt.fresh (h : InnAt g s bb K w w1 k l ks A c nl AK cK nk n sk) {q : Nat} (hq : w1.heap.size ≤ q) : bb + 3 ≤ q ∧ ob A ≠ some q ∧ ob AK ≠ some q :=
  ⟨Nat.le_trans h.size hq, fun e => by have := (h.2.1.lt q (by rw [ob_eq]; exact e)).2; omega, fun e => by have := (h.2.2.1.lt q (by rw [ob_eq]; exact e)).2; omega⟩
theorem InnAt.val (h : InnAt g s bb K w w1 k l ks A c nl AK cK nk n sk) {W w5 : World} [hf : Fut w1 W] {k2 : Nat} {t : T} (hm : Mv g W w5) (hp : Pr w5 g s k2) (ht : TAt w5 (fun q => W.heap.size ≤ q) t) :
    InnAt g s bb K w w5 k2 l ks A c nl AK cK nk n sk ∧ TAt w5 (fun q => bb + 3 ≤ q ∧ ob A ≠ some q ∧ ob AK ≠ some q) t :=
  have h2 : InnAt g s bb K w W k l ks A c nl AK cK nk n sk := h.step
  ⟨h2.mv hm hp, TAt.weak (fun _ hq => h2.fresh hq) ht⟩
theorem InnAt.done (h : InnAt g s bb K w w1 k l ks A c nl AK cK nk n sk) (hl : l.length = nl) (hk : ks.length = nk) :
    TAt (set6 w1 bb (.int .i64 K) (.bool false) (.int .i64 0) (.string ⟨#[]⟩) (.slice A nl c) (.slice AK nk cK)) (fun q => bb ≤ q) (.mk K false 0 ⟨#[]⟩ A c l AK cK ks) ∧
    Pr (set6 w1 bb (.int .i64 K) (.bool false) (.int .i64 0) (.string ⟨#[]⟩) (.slice A nl c) (.slice AK nk cK)) g s k ∧
    Mv g w (set6 w1 bb (.int .i64 K) (.bool false) (.int .i64 0) (.string ⟨#[]⟩) (.slice A nl c) (.slice AK nk cK)) := by
  obtain ⟨h1, h2, h3, h4, h5, h6, h7, h8, h9, h10, h11⟩ := h
  have hset := set6_grown w1 bb (.int .i64 K) (.bool false) (.int .i64 0) (.string ⟨#[]⟩) (.slice A nl c) (.slice AK nk cK)
  subst hl hk
  refine ⟨?_, set6_far h7 (by omega) _ _ _ _ _ _, h8.down (set6_below (by omega) _ _ _ _ _ _)⟩
  rw [TAt]
  refine ⟨own_zero (h2.grown_other hset (fun q e e2 => ?_)), own_zero (h3.grown_other hset (fun q e e2 => ?_)), fun q e => ?_, fun q e => ?_, TAts.weak (fun q hq => by omega) (TAts.grown hset (fun q e e2 => ?_) h4)⟩
  · have := (h2.lt q e).1; injection e2 with e2; omega
  · have := (h3.lt q e).1; injection e2 with e2; omega
  · have := (h2.lt q (by rw [ob_eq]; exact e)).1; omega
  · have := (h3.lt q (by rw [ob_eq]; exact e)).1; omega
  · have := e.1; injection e2 with e2; omega
end
/-- What comes of a list's or an object's parts. -/
def outJ (K : Int) : Except Int (List J × List ByteArray × Nat) → Except Int (J × Nat)
  | .error e => .error e
  | .ok (l, ks, j) => .ok (.mk K false 0 ⟨#[]⟩ l ks, j)
theorem inn_out (val : Nat → Except Int (J × Nat)) (s : ByteArray) (obj : Bool) (i : Nat) : innP val s obj i = outJ (if obj then 5 else 4) (elemsP val s obj (s.size + 1) (whiteE s (i + 1)) true [] []) := by
  unfold innP
  cases elemsP val s obj (s.size + 1) (whiteE s (i + 1)) true [] [] <;> rfl

set_option maxRecDepth 100000 in
set_option maxHeartbeats 16000000 in
theorem inner_list (g : Nat) (s : ByteArray) (i : Nat) (dp : Int) (hdp : ¬ dp > 16) (val : Nat → Except Int (J × Nat)) (hv : ∀ i j k, val i = .ok (j, k) → i < k)
    (HV : ∀ k w', Pr w' g s k → k ≤ s.size → Calls Tryd.prog 22 #[.pointer (some ⟨g, 0, none⟩), .int .i64 dp] w' fun e w'' => ValR w'.heap.size g s (val k) e w'' ∧ Mv g w' w'')
    (w : World) (h : Pr w g s i) (hi : i < s.size) (hs : s.size ≤ 65536) (r : Except Int (J × Nat)) (hr : innP val s false i = r) :
    Calls Tryd.prog 35 #[.pointer (some ⟨g, 0, none⟩), .int .u8 91, .int .i64 dp] w fun e w' => ValR w.heap.size g s r e w' ∧ Mv g w w' := by
  have HH := hide h
  have hlb := h.lt
  have hmm := @run_makeMap Tryd.prog
  have HVV := hide HV
  have HVG := hide hv
  have WH := hide (fun (k : Nat) (hk : k ≤ s.size) w' (hp : Pr w' g s k) => jwhite_any g s k w' hp hk hs)
  have NX := hide (fun (j : Nat) (hj : j ≤ s.size) w' (hp : Pr w' g s j) => jnext_any g s j w' hp hj hs)
  obtain ⟨R, hR⟩ : ∃ R, elemsP val s false (s.size + 1) (whiteE s (i + 1)) true [] [] = R := ⟨_, rfl⟩
  have HRR : Hid (r = outJ 4 R) := by show _ = _; rw [← hr, inn_out, hR]; rfl
  have HT := hide hR
  clear h hr hR HV hv
  obtain ⟨hw0, hw1⟩ := white_bd (s := s) (i := i + 1) (by omega)
  obtain ⟨k1, hk1⟩ : ∃ k1, whiteE s (i + 1) = k1 := ⟨_, rfl⟩
  have HK1 := hide hk1
  rw [hk1] at HT hw0 hw1
  clear hk1
  go_enter Tryd.func35, Tryd.ntmps35
  go_upto_region 7 with fail
  obtain ⟨W0, hW0⟩ : ∃ x : World, x = ((w.alloc (.cells #[.int .i64 0, .bool false, .int .i64 0, .string ⟨#[]⟩, .slice none 0 0, .slice none 0 0] 25)).alloc (.cells #[.int .i64 4, .bool false, .int .i64 0, .string ⟨#[]⟩, .slice none 0 0, .slice none 0 0] 25)).alloc (.map #[] 0) := ⟨_, rfl⟩
  have HI0 : Hid (InnAt g s w.heap.size 4 w W0 i [] [] none 0 0 none 0 0 0 []) := by
    rw [hW0]
    refine ⟨?_, Own.nil_ _ _ _ _, Own.nil_ _ _ _ _, (by rw [TAts]; trivial), ?_, ?_, ?_, Mv.of_step (w := w) Step.of, by simp, hlb, rfl⟩
    · exact (Blk.new_at (b := w.heap.size + 1) (by simp) [.int .i64 4, .bool false, .int .i64 0, .string ⟨#[]⟩, .slice none 0 0, .slice none 0 0] 25).alloc _
    · exact ((Blk.new w zeroC 25).alloc _).alloc _
    · have := Seen.made ((w.alloc (.cells #[.int .i64 0, .bool false, .int .i64 0, .string ⟨#[]⟩, .slice none 0 0, .slice none 0 0] 25)).alloc (.cells #[.int .i64 4, .bool false, .int .i64 0, .string ⟨#[]⟩, .slice none 0 0, .slice none 0 0] 25))
      simpa using this
    · exact ((HH.out.alloc _).alloc _).alloc _
  rw [← hW0]
  clear hW0 hmm
  obtain ⟨bb, hbb⟩ : ∃ n, w.heap.size = n := ⟨_, rfl⟩
  rw [hbb] at HI0 hlb
  rw [hbb]
  have HBE := hide hbb
  clear hbb
  obtain ⟨q0, q1⟩ := At.z2 HI0.out.pr.at0
  have lq := HI0.out.pr.lt
  have fq := HI0.out.pr.free
  have HPP : Hid (Pr (W0.setCell ⟨g, 1, none⟩ (.int .i64 ((i : Int) + 1))) g s (i + 1)) := Pr.put HI0.out.pr (by omega)
  have HIP := hide (HI0.out.mv (grown_setCell W0 g 1 (.int .i64 ((i : Int) + 1))) HPP.out)
  have hi1 : i + 1 ≤ s.size := by omega
  go_wp2_with (go_at_call 21; (with_reducible refine (WH.out (i + 1) hi1 _ HPP.out).mono ?_); rintro e w1 ⟨rfl, hp1, hm1⟩; rw [HK1.out] at hp1; have HI1 := hide (HIP.out.mv hm1 hp1); clear hp1 hm1)
  clear q0 q1 lq fq
  go_loopw [10, 11] (fun t _ wr => ∃ (f k : Nat) (fst : Bool) (l : List T) (A : Option Addr) (c nl : Nat), i + 1 ≤ k ∧ k ≤ s.size ∧ s.size < f + k ∧ t = .bool fst ∧ Hid (l.length = nl) ∧ nl ≤ k ∧ Hid (elemsP val s false f k fst (T.js l) [] = R) ∧ InnAt g s bb 4 w wr k l [] A c nl none 0 0 0 []) (fun _ _ wr => s.size - posOf (wr.cell? ⟨g, 1, none⟩))
  case atStart => exact ⟨s.size + 1, k1, true, [], none, 0, 0, hw0, hw1, by omega, rfl, rfl, by omega, HT.out, HI1.out⟩
  case round =>
    obtain ⟨f, k, fst, l, A, c, nl, hik, hk, hf, rfl, HL, hnk, HTX, hin⟩ := hrel
    clear HI0 HI1 HPP HIP
    have HI := hide hin
    clear hin
    obtain ⟨wo, rfl⟩ : ∃ x : World, x = wr := ⟨_, rfl⟩
    obtain ⟨f, rfl⟩ : ∃ q, f = q + 1 := ⟨f - 1, by omega⟩
    have NK := NX.out k hk
    by_cases he : bA s k = 93
    · have hkk : k < s.size := bA_lt (by omega)
      have HRS : Hid (r = .ok (.mk 4 false 0 ⟨#[]⟩ (T.js l) [], k + 1)) := by show _ = _; rw [HRR.out, ← HTX.out, el_end (by rw [he]; rfl)]; rfl
      rw [he] at NK
      have NK := hide NK
      clear he
      go_upto_region 26 with (go_at_call 32; (with_reducible refine (NK.out _ HI.out.pr).mono ?_); rintro e w6 ⟨rfl, hs6⟩; have HI6 := hide (HI.out.step (w2 := w6)))
      obtain ⟨q0, q1⟩ := At.z2 HI6.out.pr.at0
      have lq := HI6.out.pr.lt
      have fq := HI6.out.pr.free
      go_upto_region 27 with fail
      have HI7 := hide (HI6.out.mv (grown_setCell w6 g 1 (.int .i64 ((k : Int) + 1))) (Pr.put (n := k + 1) HI6.out.pr (by omega)))
      obtain ⟨X, hX⟩ : ∃ x : World, x = w6.setCell ⟨g, 1, none⟩ (.int .i64 ((k : Int) + 1)) := ⟨_, rfl⟩
      rw [← hX] at HI7
      rw [← hX]
      clear hX q0 q1 lq fq HI6
      obtain ⟨c0, c1, c2, c3, c4, c5⟩ := At.z6 HI7.out.1.at0
      have lc := HI7.out.1.lt
      have fc := HI7.out.1.free
      obtain ⟨z0, z1, z2, z3, z4, z5⟩ := At.z6 HI7.out.zer.at0
      have lz := HI7.out.zer.lt
      have fz := HI7.out.zer.free
      go_wp2_with fail
      clear c0 c1 c2 c3 c4 c5 z0 z1 z2 z3 z4 z5
      have hF := set6_blk HI7.out.zer (.int .i64 4) (.bool false) (.int .i64 0) (.string ⟨#[]⟩) (.slice A nl c) (.slice none 0 0)
      obtain ⟨c0, c1, c2, c3, c4, c5⟩ := At.z6 hF.at0
      unfold set6 at c0 c1 c2 c3 c4 c5
      refine bodyPost_ret (v := .agg #[.int .i64 4, .bool false, .int .i64 0, .string ⟨#[]⟩, .slice A nl c, .slice none 0 0]) (by simp [results, Tryd.results35, go_sem, c0, c1, c2, c3, c4, c5]) rfl ?_
      obtain ⟨d1, d2, d3⟩ := HI7.out.done HL.out rfl
      exact ⟨by rw [HRS.out]; exact ⟨.mk 4 false 0 ⟨#[]⟩ A c l none 0 [], by rw [T.cells, HL.out]; rfl, rfl, TAt.weak (fun q hq => by rw [HBE.out]; exact hq) d1, d2, by omega⟩, d3⟩
    · have hnc : ((bA s k : Int) != 93) = true := bne_iff_ne.2 (by omega)
      cases fst with
      | true =>
        have HTS : Hid ((match val k with | .error e => .error e | .ok (j, i4) => elemsP val s false f (whiteE s i4) false (T.js l ++ [j]) []) = R) := by show _ = _; rw [← HTX.out, el_list he (by simp)]; rfl
        obtain ⟨C, hC⟩ : ∃ C : Int, (bA s k : Int) = C := ⟨_, rfl⟩
        rw [hC] at NK hnc
        have NK := hide NK
        clear he hC HTX
        have hkk0 : k ≤ k := Nat.le_refl _
        have hk0 : k ≤ s.size := hk
        go_upto_region 15 with (go_at_call 32; (with_reducible refine (NK.out _ HI.out.pr).mono ?_); rintro e wy ⟨rfl, hs6⟩; have HIY := hide (HI.out.step (w2 := wy)))
        have HVK := HVV.out k
        cases hvv : val k with
        | error ec =>
          have HRE : Hid (r = .error ec) := by show _ = _; rw [HRR.out, ← HTS.out, hvv]; rfl
          have HVE : Hid (∀ w', Pr w' g s k → Calls Tryd.prog 22 #[.pointer (some ⟨g, 0, none⟩), .int .i64 dp] w' fun e w'' => e = .panicked [{ v := fault ec, recovered := false }] ∧ Mv g w' w'') := fun w' hp => by have h_ := HVK w' hp hk0; rw [hvv] at h_; exact h_
          clear hvv HTS HVK
          obtain ⟨c0, c1, c2, c3, c4, c5⟩ := At.z6 HIY.out.1.at0; have lc := HIY.out.1.lt; have fc := HIY.out.1.free
          go_upto_region 24 with fail
          refine wp_region_held_drew (S := (fun _ => True ∧ True)) (by kernel_rfl) (by (try dsimp only); (exact ⟨trivial, trivial⟩)) (fun hHeld => ?_)
          refine wpAnyH_take (i := 0) (oi := ⟨some 63, _, _, _, _, _⟩) (v := ?_) rfl (by kernel_rfl) (by kernel_rfl) (by kernel_rfl) (fun _ _ _ h => h) (Or.inl ⟨by rfl, ?_⟩) (by assumption) ?_
          rotate_left
          · ((intro w hSw); (try dsimp only at hSw); go_simp; (try with_reducible rfl))
          (try simp only [Act.put, List.setIfInBounds_toArray, List.set_cons_zero, List.set_cons_succ])
          refine wpAnyH_take (i := 2) (oi := ⟨some 65, _, _, _, _, _⟩) (v := ?_) rfl (by kernel_rfl) (by kernel_rfl) (by kernel_rfl) (fun _ _ _ h => h) (Or.inl ⟨by rfl, ?_⟩) (by assumption) ?_
          rotate_left
          · ((intro w hSw); (try dsimp only at hSw); go_simp; (try with_reducible rfl))
          (try simp only [Act.put, List.setIfInBounds_toArray, List.set_cons_zero, List.set_cons_succ])
          refine wpAnyH_take (i := 3) (oi := ⟨some 66, _, _, _, _, _⟩) (v := ?_) rfl (by kernel_rfl) (by kernel_rfl) (by kernel_rfl) (fun _ _ _ h => h) (Or.inl ⟨by rfl, ?_⟩) (by assumption) ?_
          rotate_left
          · ((intro w hSw); (try dsimp only at hSw); go_simp; (try with_reducible rfl))
          (try simp only [Act.put, List.setIfInBounds_toArray, List.set_cons_zero, List.set_cons_succ])
          refine wpAnyH_ready (rs := [1, 4]) (by kernel_rfl) (by simp) ?_
          refine AllReadyH.cons (o := ⟨some 64, _, _, _, _, _⟩) rfl (fun K hK => ?_) (AllReadyH.cons (o := ⟨some 67, _, _, _, _, _⟩) rfl (fun K hK => ?_) AllReadyH.nil)
          · go_simp
            refine hK.out _ _ (by (try dsimp only); (exact ⟨trivial, trivial⟩)) (fun hHeld => ?_)
            clear hK K
            (try simp only [Act.put, List.setIfInBounds_toArray, List.set_cons_zero, List.set_cons_succ])
            refine wpAnyH_ready (rs := [4]) (by kernel_rfl) (by simp) ?_
            refine AllReadyH.cons (o := ⟨some 67, _, _, _, _, _⟩) rfl (fun K hK => ?_) AllReadyH.nil
            obtain ⟨hS1, hS2⟩ := hHeld
            go_simp
            (go_at_call 22; (with_reducible refine (HVE.out _ (HIY.out.pr.fut)).mono ?_); rintro e w5 ⟨rfl, hm5⟩; exact ⟨rfl, by rw [HRE.out]; rfl, grown_trans HIY.out.mvd.fut hm5⟩)
          · obtain ⟨hS1, hS2⟩ := hHeld
            go_simp
            (go_at_call 22; (with_reducible refine (HVE.out _ (HIY.out.pr.fut)).mono ?_); rintro e w5 ⟨rfl, hm5⟩; exact ⟨rfl, by rw [HRE.out]; rfl, grown_trans HIY.out.mvd.fut hm5⟩)
        | ok ji =>
          obtain ⟨j, i4⟩ := ji
          have HTJ : Hid (elemsP val s false f (whiteE s i4) false (T.js l ++ [j]) [] = R) := by have := HTS.out; rw [hvv] at this; exact this
          have hgt := HVG.out _ _ _ hvv
          have HVE : Hid (∀ w', Pr w' g s k → Calls Tryd.prog 22 #[.pointer (some ⟨g, 0, none⟩), .int .i64 dp] w' fun e w'' => (∃ (vk : Int) (vb : Bool) (vn : Int) (vs : ByteArray) (vA : Option Addr) (vc vnl : Nat) (vl : List T) (vAK : Option Addr) (vcK vnk : Nat) (vks : List ByteArray), e = .returned (.agg #[.int .i64 vk, .bool vb, .int .i64 vn, .string vs, .slice vA vnl vc, .slice vAK vnk vcK]) ∧ Hid (vl.length = vnl ∧ vks.length = vnk) ∧ Hid (T.j (.mk vk vb vn vs vA vc vl vAK vcK vks) = j) ∧ TAt w'' (fun q => w'.heap.size ≤ q) (.mk vk vb vn vs vA vc vl vAK vcK vks) ∧ Pr w'' g s i4 ∧ i4 ≤ s.size) ∧ Mv g w' w'') := fun w' hp => by
            have h_ := HVK w' hp hk0
            rw [hvv] at h_
            exact h_.mono fun e w'' hh => by
              obtain ⟨⟨t, h1, h2, h3, h4, h5⟩, h6⟩ := hh
              cases t with
              | mk vk vb vn vs vA vc vl vAK vcK vks => exact ⟨⟨vk, vb, vn, vs, vA, vc, _, vl, vAK, vcK, _, vks, h1, ⟨rfl, rfl⟩, h2, h3, h4, h5⟩, h6⟩
          clear hvv HTS HVK
          obtain ⟨c0, c1, c2, c3, c4, c5⟩ := At.z6 HIY.out.1.at0; have lc := HIY.out.1.lt; have fc := HIY.out.1.free
          go_upto_region 24 with fail
          refine wp_region_held_drew (S := (fun _ => True ∧ True)) (by kernel_rfl) (by (try dsimp only); (exact ⟨trivial, trivial⟩)) (fun hHeld => ?_)
          refine wpAnyH_take (i := 0) (oi := ⟨some 63, _, _, _, _, _⟩) (v := ?_) rfl (by kernel_rfl) (by kernel_rfl) (by kernel_rfl) (fun _ _ _ h => h) (Or.inl ⟨by rfl, ?_⟩) (by assumption) ?_
          rotate_left
          · ((intro w hSw); (try dsimp only at hSw); go_simp; (try with_reducible rfl))
          (try simp only [Act.put, List.setIfInBounds_toArray, List.set_cons_zero, List.set_cons_succ])
          refine wpAnyH_take (i := 2) (oi := ⟨some 65, _, _, _, _, _⟩) (v := ?_) rfl (by kernel_rfl) (by kernel_rfl) (by kernel_rfl) (fun _ _ _ h => h) (Or.inl ⟨by rfl, ?_⟩) (by assumption) ?_
          rotate_left
          · ((intro w hSw); (try dsimp only at hSw); go_simp; (try with_reducible rfl))
          (try simp only [Act.put, List.setIfInBounds_toArray, List.set_cons_zero, List.set_cons_succ])
          refine wpAnyH_take (i := 3) (oi := ⟨some 66, _, _, _, _, _⟩) (v := ?_) rfl (by kernel_rfl) (by kernel_rfl) (by kernel_rfl) (fun _ _ _ h => h) (Or.inl ⟨by rfl, ?_⟩) (by assumption) ?_
          rotate_left
          · ((intro w hSw); (try dsimp only at hSw); go_simp; (try with_reducible rfl))
          (try simp only [Act.put, List.setIfInBounds_toArray, List.set_cons_zero, List.set_cons_succ])
          refine wpAnyH_ready (rs := [1, 4]) (by kernel_rfl) (by simp) ?_
          refine AllReadyH.cons (o := ⟨some 64, _, _, _, _, _⟩) rfl (fun K hK => ?_) (AllReadyH.cons (o := ⟨some 67, _, _, _, _, _⟩) rfl (fun K hK => ?_) AllReadyH.nil)
          · go_simp
            refine hK.out _ _ (by (try dsimp only); (exact ⟨trivial, trivial⟩)) (fun hHeld => ?_)
            clear hK K
            (try simp only [Act.put, List.setIfInBounds_toArray, List.set_cons_zero, List.set_cons_succ])
            refine wpAnyH_ready (rs := [4]) (by kernel_rfl) (by simp) ?_
            refine AllReadyH.cons (o := ⟨some 67, _, _, _, _, _⟩) rfl (fun K hK => ?_) AllReadyH.nil
            obtain ⟨hS1, hS2⟩ := hHeld
            go_simp
            (go_at_call 22; (with_reducible refine (HVE.out _ (HIY.out.pr.fut)).mono ?_); rintro e w5 ⟨⟨vk, vb, vn, vs, vA, vc, vnl, vl, vAK, vcK, vnk, vks, rfl, HVL, HVJ, ht5, hp5, hi5⟩, hm5⟩; obtain ⟨hI5, hT5⟩ := HIY.out.val hm5 hp5 ht5; have HI5 := hide hI5; have HT5 := hide hT5; clear hI5 hT5 ht5 hp5 hm5; clear c0 c1 c2 c3 c4 c5 lc fc; obtain ⟨c0, c1, c2, c3, c4, c5⟩ := At.z6 HI5.out.1.at0; have lc := HI5.out.1.lt; have fc := HI5.out.1.free)
            refine hK.out _ _ (by (try dsimp only); (exact ⟨trivial, trivial⟩)) (fun hHeld => ?_)
            clear hK K
            (try simp only [Act.put, List.setIfInBounds_toArray, List.set_cons_zero, List.set_cons_succ])
            refine wpAnyH_ready (rs := [5]) (by kernel_rfl) (by simp) ?_
            refine AllReadyH.cons (o := ⟨some 68, _, _, _, _, _⟩) rfl (fun K hK => ?_) AllReadyH.nil
            go_simp
            refine hK.out _ _ (by (try dsimp only); (exact ⟨trivial, trivial⟩)) (fun hHeld => ?_)
            clear hK K
            (try simp only [Act.put, List.setIfInBounds_toArray, List.set_cons_zero, List.set_cons_succ])
            refine wpAnyH_ready (rs := [6]) (by kernel_rfl) (by simp) ?_
            refine AllReadyH.cons (o := ⟨some 69, _, _, _, _, _⟩) rfl (fun K hK => ?_) AllReadyH.nil
            (have HI6 := hide (HI5.out.step (w2 := w5.alloc (.cells #[.int .i64 vk, .bool vb, .int .i64 vn, .string vs, .slice vA vnl vc, .slice vAK vnk vcK] 25))); have hy : [.int .i64 vk, .bool vb, .int .i64 vn, .string vs, .slice vA vnl vc, .slice vAK vnk vcK] = T.cells (.mk vk vb vn vs vA vc vl vAK vcK vks) := (by rw [T.cells, HVL.out.1, HVL.out.2]); have HY := hide hy; clear hy; refine step_append_slB rfl (.tmp 64) (.tmp 68) 22 rfl eiJ (base := bb + 3) (xs := l.map T.cells) rfl HI6.out.2.1 (tree_fit _) (ad := ⟨w5.heap.size, 0, none⟩) (c := 1) (y := [.int .i64 vk, .bool vb, .int .i64 vn, .string vs, .slice vA vnl vc, .slice vAK vnk vcK]) rfl (cells_at w5 [.int .i64 vk, .bool vb, .int .i64 vn, .string vs, .slice vA vnl vc, .slice vAK vnk vcK] 25) (by rw [HY.out]; exact tree_fit [_]) (by rw [List.length_map, HL.out]; omega) HI6.out.size (N := nl + 1) (by rw [List.length_map, HL.out]) ?_; intro A7 c7 w7 ho7 hg7 hb7 hA7; have HT6 := hide (TAt.grown (row := none) (World.grownBy_alloc w5 (.cells #[.int .i64 vk, .bool vb, .int .i64 vn, .string vs, .slice vA vnl vc, .slice vAK vnk vcK] 25) none) (fun q _ e => by cases e) HT5.out); have HI8 := hide (HI6.out.addL HT6.out hg7 (by rw [← HY.out]; exact ho7) hA7); have hb7_ := HI6.out.1.grown hg7 (by intro e; have := (HI6.out.2.1.lt _ e.symm).1; omega); clear ho7 hg7 hb7 hA7; clear c0 c1 c2 c3 c4 c5 lc fc; obtain ⟨c0, c1, c2, c3, c4, c5⟩ := At.z6 hb7_.at0; have lc := hb7_.lt; have fc := hb7_.free; clear hb7_)
            refine hK.out _ _ (by (try dsimp only); (exact ⟨trivial, trivial⟩)) (fun hHeld => ?_)
            clear hK K
            (try simp only [Act.put, List.setIfInBounds_toArray, List.set_cons_zero, List.set_cons_succ])
            refine wpAnyH_take (i := 7) (oi := ⟨some 70, _, _, _, _, _⟩) (v := ?_) rfl (by kernel_rfl) (by kernel_rfl) (by kernel_rfl) (fun _ _ _ h => h) (Or.inl ⟨by rfl, ?_⟩) (by assumption) ?_
            rotate_left
            · ((intro w hSw); (try dsimp only at hSw); go_simp; (try with_reducible rfl))
            (try simp only [Act.put, List.setIfInBounds_toArray, List.set_cons_zero, List.set_cons_succ])
            refine wpAnyH_ready (rs := [8]) (by kernel_rfl) (by simp) ?_
            refine AllReadyH.cons (o := ⟨none, _, _, _, _, _⟩) rfl (fun K hK => ?_) AllReadyH.nil
            go_simp
            refine hK.out _ _ (by (try dsimp only); (exact ⟨trivial, trivial⟩)) (fun hHeld => ?_)
            clear hK K
            (try simp only [Act.put, List.setIfInBounds_toArray, List.set_cons_zero, List.set_cons_succ])
            refine wpAnyH_done (by kernel_rfl) ?_ _
            go_wp2_with (go_at_call 21; (with_reducible refine (WH.out i4 hi5 _ HI8.out.pr).mono ?_); rintro e w9 ⟨rfl, hp9, hm9⟩; have hwb := white_bd hi5; have HI9 := hide (HI8.out.mv hm9 hp9); clear hp9 hm9)
            go_roundw
            case rel => exact ⟨f, whiteE s i4, false, l ++ [(.mk vk vb vn vs vA vc vl vAK vcK vks)], A7, c7, nl + 1, by omega, hwb.2, by omega, rfl, by show _ = _; rw [List.length_append, HL.out]; rfl, by omega, by show _ = _; rw [js_app, T.js, T.js, HVJ.out]; exact HTJ.out, HI9.out⟩
            case measure =>
              rw [Pr.pos HI9.out.pr, Pr.pos HI.out.pr]
              omega
          · obtain ⟨hS1, hS2⟩ := hHeld
            go_simp
            (go_at_call 22; (with_reducible refine (HVE.out _ (HIY.out.pr.fut)).mono ?_); rintro e w5 ⟨⟨vk, vb, vn, vs, vA, vc, vnl, vl, vAK, vcK, vnk, vks, rfl, HVL, HVJ, ht5, hp5, hi5⟩, hm5⟩; obtain ⟨hI5, hT5⟩ := HIY.out.val hm5 hp5 ht5; have HI5 := hide hI5; have HT5 := hide hT5; clear hI5 hT5 ht5 hp5 hm5; clear c0 c1 c2 c3 c4 c5 lc fc; obtain ⟨c0, c1, c2, c3, c4, c5⟩ := At.z6 HI5.out.1.at0; have lc := HI5.out.1.lt; have fc := HI5.out.1.free)
            refine hK.out _ _ (by (try dsimp only); (exact ⟨trivial, trivial⟩)) (fun hHeld => ?_)
            clear hK K
            (try simp only [Act.put, List.setIfInBounds_toArray, List.set_cons_zero, List.set_cons_succ])
            refine wpAnyH_ready (rs := [1, 5]) (by kernel_rfl) (by simp) ?_
            refine AllReadyH.cons (o := ⟨some 64, _, _, _, _, _⟩) rfl (fun K hK => ?_) (AllReadyH.cons (o := ⟨some 68, _, _, _, _, _⟩) rfl (fun K hK => ?_) AllReadyH.nil)
            · go_simp
              refine hK.out _ _ (by (try dsimp only); (exact ⟨trivial, trivial⟩)) (fun hHeld => ?_)
              clear hK K
              (try simp only [Act.put, List.setIfInBounds_toArray, List.set_cons_zero, List.set_cons_succ])
              refine wpAnyH_ready (rs := [5]) (by kernel_rfl) (by simp) ?_
              refine AllReadyH.cons (o := ⟨some 68, _, _, _, _, _⟩) rfl (fun K hK => ?_) AllReadyH.nil
              go_simp
              refine hK.out _ _ (by (try dsimp only); (exact ⟨trivial, trivial⟩)) (fun hHeld => ?_)
              clear hK K
              (try simp only [Act.put, List.setIfInBounds_toArray, List.set_cons_zero, List.set_cons_succ])
              refine wpAnyH_ready (rs := [6]) (by kernel_rfl) (by simp) ?_
              refine AllReadyH.cons (o := ⟨some 69, _, _, _, _, _⟩) rfl (fun K hK => ?_) AllReadyH.nil
              (have HI6 := hide (HI5.out.step (w2 := w5.alloc (.cells #[.int .i64 vk, .bool vb, .int .i64 vn, .string vs, .slice vA vnl vc, .slice vAK vnk vcK] 25))); have hy : [.int .i64 vk, .bool vb, .int .i64 vn, .string vs, .slice vA vnl vc, .slice vAK vnk vcK] = T.cells (.mk vk vb vn vs vA vc vl vAK vcK vks) := (by rw [T.cells, HVL.out.1, HVL.out.2]); have HY := hide hy; clear hy; refine step_append_slB rfl (.tmp 64) (.tmp 68) 22 rfl eiJ (base := bb + 3) (xs := l.map T.cells) rfl HI6.out.2.1 (tree_fit _) (ad := ⟨w5.heap.size, 0, none⟩) (c := 1) (y := [.int .i64 vk, .bool vb, .int .i64 vn, .string vs, .slice vA vnl vc, .slice vAK vnk vcK]) rfl (cells_at w5 [.int .i64 vk, .bool vb, .int .i64 vn, .string vs, .slice vA vnl vc, .slice vAK vnk vcK] 25) (by rw [HY.out]; exact tree_fit [_]) (by rw [List.length_map, HL.out]; omega) HI6.out.size (N := nl + 1) (by rw [List.length_map, HL.out]) ?_; intro A7 c7 w7 ho7 hg7 hb7 hA7; have HT6 := hide (TAt.grown (row := none) (World.grownBy_alloc w5 (.cells #[.int .i64 vk, .bool vb, .int .i64 vn, .string vs, .slice vA vnl vc, .slice vAK vnk vcK] 25) none) (fun q _ e => by cases e) HT5.out); have HI8 := hide (HI6.out.addL HT6.out hg7 (by rw [← HY.out]; exact ho7) hA7); have hb7_ := HI6.out.1.grown hg7 (by intro e; have := (HI6.out.2.1.lt _ e.symm).1; omega); clear ho7 hg7 hb7 hA7; clear c0 c1 c2 c3 c4 c5 lc fc; obtain ⟨c0, c1, c2, c3, c4, c5⟩ := At.z6 hb7_.at0; have lc := hb7_.lt; have fc := hb7_.free; clear hb7_)
              refine hK.out _ _ (by (try dsimp only); (exact ⟨trivial, trivial⟩)) (fun hHeld => ?_)
              clear hK K
              (try simp only [Act.put, List.setIfInBounds_toArray, List.set_cons_zero, List.set_cons_succ])
              refine wpAnyH_take (i := 7) (oi := ⟨some 70, _, _, _, _, _⟩) (v := ?_) rfl (by kernel_rfl) (by kernel_rfl) (by kernel_rfl) (fun _ _ _ h => h) (Or.inl ⟨by rfl, ?_⟩) (by assumption) ?_
              rotate_left
              · ((intro w hSw); (try dsimp only at hSw); go_simp; (try with_reducible rfl))
              (try simp only [Act.put, List.setIfInBounds_toArray, List.set_cons_zero, List.set_cons_succ])
              refine wpAnyH_ready (rs := [8]) (by kernel_rfl) (by simp) ?_
              refine AllReadyH.cons (o := ⟨none, _, _, _, _, _⟩) rfl (fun K hK => ?_) AllReadyH.nil
              go_simp
              refine hK.out _ _ (by (try dsimp only); (exact ⟨trivial, trivial⟩)) (fun hHeld => ?_)
              clear hK K
              (try simp only [Act.put, List.setIfInBounds_toArray, List.set_cons_zero, List.set_cons_succ])
              refine wpAnyH_done (by kernel_rfl) ?_ _
              go_wp2_with (go_at_call 21; (with_reducible refine (WH.out i4 hi5 _ HI8.out.pr).mono ?_); rintro e w9 ⟨rfl, hp9, hm9⟩; have hwb := white_bd hi5; have HI9 := hide (HI8.out.mv hm9 hp9); clear hp9 hm9)
              go_roundw
              case rel => exact ⟨f, whiteE s i4, false, l ++ [(.mk vk vb vn vs vA vc vl vAK vcK vks)], A7, c7, nl + 1, by omega, hwb.2, by omega, rfl, by show _ = _; rw [List.length_append, HL.out]; rfl, by omega, by show _ = _; rw [js_app, T.js, T.js, HVJ.out]; exact HTJ.out, HI9.out⟩
              case measure =>
                rw [Pr.pos HI9.out.pr, Pr.pos HI.out.pr]
                omega
            · go_simp
              refine hK.out _ _ (by (try dsimp only); (exact ⟨trivial, trivial⟩)) (fun hHeld => ?_)
              clear hK K
              (try simp only [Act.put, List.setIfInBounds_toArray, List.set_cons_zero, List.set_cons_succ])
              refine wpAnyH_ready (rs := [1]) (by kernel_rfl) (by simp) ?_
              refine AllReadyH.cons (o := ⟨some 64, _, _, _, _, _⟩) rfl (fun K hK => ?_) AllReadyH.nil
              go_simp
              refine hK.out _ _ (by (try dsimp only); (exact ⟨trivial, trivial⟩)) (fun hHeld => ?_)
              clear hK K
              (try simp only [Act.put, List.setIfInBounds_toArray, List.set_cons_zero, List.set_cons_succ])
              refine wpAnyH_ready (rs := [6]) (by kernel_rfl) (by simp) ?_
              refine AllReadyH.cons (o := ⟨some 69, _, _, _, _, _⟩) rfl (fun K hK => ?_) AllReadyH.nil
              (have HI6 := hide (HI5.out.step (w2 := w5.alloc (.cells #[.int .i64 vk, .bool vb, .int .i64 vn, .string vs, .slice vA vnl vc, .slice vAK vnk vcK] 25))); have hy : [.int .i64 vk, .bool vb, .int .i64 vn, .string vs, .slice vA vnl vc, .slice vAK vnk vcK] = T.cells (.mk vk vb vn vs vA vc vl vAK vcK vks) := (by rw [T.cells, HVL.out.1, HVL.out.2]); have HY := hide hy; clear hy; refine step_append_slB rfl (.tmp 64) (.tmp 68) 22 rfl eiJ (base := bb + 3) (xs := l.map T.cells) rfl HI6.out.2.1 (tree_fit _) (ad := ⟨w5.heap.size, 0, none⟩) (c := 1) (y := [.int .i64 vk, .bool vb, .int .i64 vn, .string vs, .slice vA vnl vc, .slice vAK vnk vcK]) rfl (cells_at w5 [.int .i64 vk, .bool vb, .int .i64 vn, .string vs, .slice vA vnl vc, .slice vAK vnk vcK] 25) (by rw [HY.out]; exact tree_fit [_]) (by rw [List.length_map, HL.out]; omega) HI6.out.size (N := nl + 1) (by rw [List.length_map, HL.out]) ?_; intro A7 c7 w7 ho7 hg7 hb7 hA7; have HT6 := hide (TAt.grown (row := none) (World.grownBy_alloc w5 (.cells #[.int .i64 vk, .bool vb, .int .i64 vn, .string vs, .slice vA vnl vc, .slice vAK vnk vcK] 25) none) (fun q _ e => by cases e) HT5.out); have HI8 := hide (HI6.out.addL HT6.out hg7 (by rw [← HY.out]; exact ho7) hA7); have hb7_ := HI6.out.1.grown hg7 (by intro e; have := (HI6.out.2.1.lt _ e.symm).1; omega); clear ho7 hg7 hb7 hA7; clear c0 c1 c2 c3 c4 c5 lc fc; obtain ⟨c0, c1, c2, c3, c4, c5⟩ := At.z6 hb7_.at0; have lc := hb7_.lt; have fc := hb7_.free; clear hb7_)
              refine hK.out _ _ (by (try dsimp only); (exact ⟨trivial, trivial⟩)) (fun hHeld => ?_)
              clear hK K
              (try simp only [Act.put, List.setIfInBounds_toArray, List.set_cons_zero, List.set_cons_succ])
              refine wpAnyH_take (i := 7) (oi := ⟨some 70, _, _, _, _, _⟩) (v := ?_) rfl (by kernel_rfl) (by kernel_rfl) (by kernel_rfl) (fun _ _ _ h => h) (Or.inl ⟨by rfl, ?_⟩) (by assumption) ?_
              rotate_left
              · ((intro w hSw); (try dsimp only at hSw); go_simp; (try with_reducible rfl))
              (try simp only [Act.put, List.setIfInBounds_toArray, List.set_cons_zero, List.set_cons_succ])
              refine wpAnyH_ready (rs := [8]) (by kernel_rfl) (by simp) ?_
              refine AllReadyH.cons (o := ⟨none, _, _, _, _, _⟩) rfl (fun K hK => ?_) AllReadyH.nil
              go_simp
              refine hK.out _ _ (by (try dsimp only); (exact ⟨trivial, trivial⟩)) (fun hHeld => ?_)
              clear hK K
              (try simp only [Act.put, List.setIfInBounds_toArray, List.set_cons_zero, List.set_cons_succ])
              refine wpAnyH_done (by kernel_rfl) ?_ _
              go_wp2_with (go_at_call 21; (with_reducible refine (WH.out i4 hi5 _ HI8.out.pr).mono ?_); rintro e w9 ⟨rfl, hp9, hm9⟩; have hwb := white_bd hi5; have HI9 := hide (HI8.out.mv hm9 hp9); clear hp9 hm9)
              go_roundw
              case rel => exact ⟨f, whiteE s i4, false, l ++ [(.mk vk vb vn vs vA vc vl vAK vcK vks)], A7, c7, nl + 1, by omega, hwb.2, by omega, rfl, by show _ = _; rw [List.length_append, HL.out]; rfl, by omega, by show _ = _; rw [js_app, T.js, T.js, HVJ.out]; exact HTJ.out, HI9.out⟩
              case measure =>
                rw [Pr.pos HI9.out.pr, Pr.pos HI.out.pr]
                omega
      | false =>
        by_cases hq : bA s k = 44
        · have hkk : k < s.size := bA_lt (by omega)
          have hk1' : k + 1 ≤ s.size := by omega
          have TK := hide (fun w' (hp : Pr w' g s k) => jtake_yes g s k 44 w' hp hkk (by rw [← bA_at hkk, hq]; rfl) hs)
          have HTS : Hid ((match val (whiteE s (k + 1)) with | .error e => .error e | .ok (j, i4) => elemsP val s false f (whiteE s i4) false (T.js l ++ [j]) []) = R) := by show _ = _; rw [← HTX.out, el_list he (by simp [hq])]; rfl
          obtain ⟨hkk0, hk0⟩ := white_bd hk1'
          obtain ⟨k0, hk0e⟩ : ∃ k0, whiteE s (k + 1) = k0 := ⟨_, rfl⟩
          rw [hk0e] at HTS hkk0 hk0
          have HKW := hide hk0e
          rw [hq] at NK
          have NK := hide NK
          clear he hk0e HTX hnc hq
          go_upto_region 15 with (first | (go_at_call 32; (with_reducible refine (NK.out _ HI.out.pr).mono ?_); rintro e w6 ⟨rfl, hs6⟩; have HI6 := hide (HI.out.step (w2 := w6))) | (go_at_call 52; (with_reducible refine (TK.out _ HI6.out.pr).mono ?_); rintro e w7 ⟨rfl, hp7, hm7⟩; have HI7 := hide (HI6.out.mv hm7 hp7); clear hp7 hm7) | (go_at_call 21; (with_reducible refine (WH.out (k + 1) hk1' _ HI7.out.pr).mono ?_); rintro e wy ⟨rfl, hp8, hm8⟩; rw [HKW.out] at hp8; have HIY := hide (HI7.out.mv hm8 hp8); clear hp8 hm8))
          have HVK := HVV.out k0
          cases hvv : val k0 with
          | error ec =>
            have HRE : Hid (r = .error ec) := by show _ = _; rw [HRR.out, ← HTS.out, hvv]; rfl
            have HVE : Hid (∀ w', Pr w' g s k0 → Calls Tryd.prog 22 #[.pointer (some ⟨g, 0, none⟩), .int .i64 dp] w' fun e w'' => e = .panicked [{ v := fault ec, recovered := false }] ∧ Mv g w' w'') := fun w' hp => by have h_ := HVK w' hp hk0; rw [hvv] at h_; exact h_
            clear hvv HTS HVK
            obtain ⟨c0, c1, c2, c3, c4, c5⟩ := At.z6 HIY.out.1.at0; have lc := HIY.out.1.lt; have fc := HIY.out.1.free
            go_upto_region 24 with fail
            refine wp_region_held_drew (S := (fun _ => True ∧ True)) (by kernel_rfl) (by (try dsimp only); (exact ⟨trivial, trivial⟩)) (fun hHeld => ?_)
            refine wpAnyH_take (i := 0) (oi := ⟨some 63, _, _, _, _, _⟩) (v := ?_) rfl (by kernel_rfl) (by kernel_rfl) (by kernel_rfl) (fun _ _ _ h => h) (Or.inl ⟨by rfl, ?_⟩) (by assumption) ?_
            rotate_left
            · ((intro w hSw); (try dsimp only at hSw); go_simp; (try with_reducible rfl))
            (try simp only [Act.put, List.setIfInBounds_toArray, List.set_cons_zero, List.set_cons_succ])
            refine wpAnyH_take (i := 2) (oi := ⟨some 65, _, _, _, _, _⟩) (v := ?_) rfl (by kernel_rfl) (by kernel_rfl) (by kernel_rfl) (fun _ _ _ h => h) (Or.inl ⟨by rfl, ?_⟩) (by assumption) ?_
            rotate_left
            · ((intro w hSw); (try dsimp only at hSw); go_simp; (try with_reducible rfl))
            (try simp only [Act.put, List.setIfInBounds_toArray, List.set_cons_zero, List.set_cons_succ])
            refine wpAnyH_take (i := 3) (oi := ⟨some 66, _, _, _, _, _⟩) (v := ?_) rfl (by kernel_rfl) (by kernel_rfl) (by kernel_rfl) (fun _ _ _ h => h) (Or.inl ⟨by rfl, ?_⟩) (by assumption) ?_
            rotate_left
            · ((intro w hSw); (try dsimp only at hSw); go_simp; (try with_reducible rfl))
            (try simp only [Act.put, List.setIfInBounds_toArray, List.set_cons_zero, List.set_cons_succ])
            refine wpAnyH_ready (rs := [1, 4]) (by kernel_rfl) (by simp) ?_
            refine AllReadyH.cons (o := ⟨some 64, _, _, _, _, _⟩) rfl (fun K hK => ?_) (AllReadyH.cons (o := ⟨some 67, _, _, _, _, _⟩) rfl (fun K hK => ?_) AllReadyH.nil)
            · go_simp
              refine hK.out _ _ (by (try dsimp only); (exact ⟨trivial, trivial⟩)) (fun hHeld => ?_)
              clear hK K
              (try simp only [Act.put, List.setIfInBounds_toArray, List.set_cons_zero, List.set_cons_succ])
              refine wpAnyH_ready (rs := [4]) (by kernel_rfl) (by simp) ?_
              refine AllReadyH.cons (o := ⟨some 67, _, _, _, _, _⟩) rfl (fun K hK => ?_) AllReadyH.nil
              obtain ⟨hS1, hS2⟩ := hHeld
              go_simp
              (go_at_call 22; (with_reducible refine (HVE.out _ (HIY.out.pr.fut)).mono ?_); rintro e w5 ⟨rfl, hm5⟩; exact ⟨rfl, by rw [HRE.out]; rfl, grown_trans HIY.out.mvd.fut hm5⟩)
            · obtain ⟨hS1, hS2⟩ := hHeld
              go_simp
              (go_at_call 22; (with_reducible refine (HVE.out _ (HIY.out.pr.fut)).mono ?_); rintro e w5 ⟨rfl, hm5⟩; exact ⟨rfl, by rw [HRE.out]; rfl, grown_trans HIY.out.mvd.fut hm5⟩)
          | ok ji =>
            obtain ⟨j, i4⟩ := ji
            have HTJ : Hid (elemsP val s false f (whiteE s i4) false (T.js l ++ [j]) [] = R) := by have := HTS.out; rw [hvv] at this; exact this
            have hgt := HVG.out _ _ _ hvv
            have HVE : Hid (∀ w', Pr w' g s k0 → Calls Tryd.prog 22 #[.pointer (some ⟨g, 0, none⟩), .int .i64 dp] w' fun e w'' => (∃ (vk : Int) (vb : Bool) (vn : Int) (vs : ByteArray) (vA : Option Addr) (vc vnl : Nat) (vl : List T) (vAK : Option Addr) (vcK vnk : Nat) (vks : List ByteArray), e = .returned (.agg #[.int .i64 vk, .bool vb, .int .i64 vn, .string vs, .slice vA vnl vc, .slice vAK vnk vcK]) ∧ Hid (vl.length = vnl ∧ vks.length = vnk) ∧ Hid (T.j (.mk vk vb vn vs vA vc vl vAK vcK vks) = j) ∧ TAt w'' (fun q => w'.heap.size ≤ q) (.mk vk vb vn vs vA vc vl vAK vcK vks) ∧ Pr w'' g s i4 ∧ i4 ≤ s.size) ∧ Mv g w' w'') := fun w' hp => by
              have h_ := HVK w' hp hk0
              rw [hvv] at h_
              exact h_.mono fun e w'' hh => by
                obtain ⟨⟨t, h1, h2, h3, h4, h5⟩, h6⟩ := hh
                cases t with
                | mk vk vb vn vs vA vc vl vAK vcK vks => exact ⟨⟨vk, vb, vn, vs, vA, vc, _, vl, vAK, vcK, _, vks, h1, ⟨rfl, rfl⟩, h2, h3, h4, h5⟩, h6⟩
            clear hvv HTS HVK
            obtain ⟨c0, c1, c2, c3, c4, c5⟩ := At.z6 HIY.out.1.at0; have lc := HIY.out.1.lt; have fc := HIY.out.1.free
            go_upto_region 24 with fail
            refine wp_region_held_drew (S := (fun _ => True ∧ True)) (by kernel_rfl) (by (try dsimp only); (exact ⟨trivial, trivial⟩)) (fun hHeld => ?_)
            refine wpAnyH_take (i := 0) (oi := ⟨some 63, _, _, _, _, _⟩) (v := ?_) rfl (by kernel_rfl) (by kernel_rfl) (by kernel_rfl) (fun _ _ _ h => h) (Or.inl ⟨by rfl, ?_⟩) (by assumption) ?_
            rotate_left
            · ((intro w hSw); (try dsimp only at hSw); go_simp; (try with_reducible rfl))
            (try simp only [Act.put, List.setIfInBounds_toArray, List.set_cons_zero, List.set_cons_succ])
            refine wpAnyH_take (i := 2) (oi := ⟨some 65, _, _, _, _, _⟩) (v := ?_) rfl (by kernel_rfl) (by kernel_rfl) (by kernel_rfl) (fun _ _ _ h => h) (Or.inl ⟨by rfl, ?_⟩) (by assumption) ?_
            rotate_left
            · ((intro w hSw); (try dsimp only at hSw); go_simp; (try with_reducible rfl))
            (try simp only [Act.put, List.setIfInBounds_toArray, List.set_cons_zero, List.set_cons_succ])
            refine wpAnyH_take (i := 3) (oi := ⟨some 66, _, _, _, _, _⟩) (v := ?_) rfl (by kernel_rfl) (by kernel_rfl) (by kernel_rfl) (fun _ _ _ h => h) (Or.inl ⟨by rfl, ?_⟩) (by assumption) ?_
            rotate_left
            · ((intro w hSw); (try dsimp only at hSw); go_simp; (try with_reducible rfl))
            (try simp only [Act.put, List.setIfInBounds_toArray, List.set_cons_zero, List.set_cons_succ])
            refine wpAnyH_ready (rs := [1, 4]) (by kernel_rfl) (by simp) ?_
            refine AllReadyH.cons (o := ⟨some 64, _, _, _, _, _⟩) rfl (fun K hK => ?_) (AllReadyH.cons (o := ⟨some 67, _, _, _, _, _⟩) rfl (fun K hK => ?_) AllReadyH.nil)
            · go_simp
              refine hK.out _ _ (by (try dsimp only); (exact ⟨trivial, trivial⟩)) (fun hHeld => ?_)
              clear hK K
              (try simp only [Act.put, List.setIfInBounds_toArray, List.set_cons_zero, List.set_cons_succ])
              refine wpAnyH_ready (rs := [4]) (by kernel_rfl) (by simp) ?_
              refine AllReadyH.cons (o := ⟨some 67, _, _, _, _, _⟩) rfl (fun K hK => ?_) AllReadyH.nil
              obtain ⟨hS1, hS2⟩ := hHeld
              go_simp
              (go_at_call 22; (with_reducible refine (HVE.out _ (HIY.out.pr.fut)).mono ?_); rintro e w5 ⟨⟨vk, vb, vn, vs, vA, vc, vnl, vl, vAK, vcK, vnk, vks, rfl, HVL, HVJ, ht5, hp5, hi5⟩, hm5⟩; obtain ⟨hI5, hT5⟩ := HIY.out.val hm5 hp5 ht5; have HI5 := hide hI5; have HT5 := hide hT5; clear hI5 hT5 ht5 hp5 hm5; clear c0 c1 c2 c3 c4 c5 lc fc; obtain ⟨c0, c1, c2, c3, c4, c5⟩ := At.z6 HI5.out.1.at0; have lc := HI5.out.1.lt; have fc := HI5.out.1.free)
              refine hK.out _ _ (by (try dsimp only); (exact ⟨trivial, trivial⟩)) (fun hHeld => ?_)
              clear hK K
              (try simp only [Act.put, List.setIfInBounds_toArray, List.set_cons_zero, List.set_cons_succ])
              refine wpAnyH_ready (rs := [5]) (by kernel_rfl) (by simp) ?_
              refine AllReadyH.cons (o := ⟨some 68, _, _, _, _, _⟩) rfl (fun K hK => ?_) AllReadyH.nil
              go_simp
              refine hK.out _ _ (by (try dsimp only); (exact ⟨trivial, trivial⟩)) (fun hHeld => ?_)
              clear hK K
              (try simp only [Act.put, List.setIfInBounds_toArray, List.set_cons_zero, List.set_cons_succ])
              refine wpAnyH_ready (rs := [6]) (by kernel_rfl) (by simp) ?_
              refine AllReadyH.cons (o := ⟨some 69, _, _, _, _, _⟩) rfl (fun K hK => ?_) AllReadyH.nil
              (have HI6 := hide (HI5.out.step (w2 := w5.alloc (.cells #[.int .i64 vk, .bool vb, .int .i64 vn, .string vs, .slice vA vnl vc, .slice vAK vnk vcK] 25))); have hy : [.int .i64 vk, .bool vb, .int .i64 vn, .string vs, .slice vA vnl vc, .slice vAK vnk vcK] = T.cells (.mk vk vb vn vs vA vc vl vAK vcK vks) := (by rw [T.cells, HVL.out.1, HVL.out.2]); have HY := hide hy; clear hy; refine step_append_slB rfl (.tmp 64) (.tmp 68) 22 rfl eiJ (base := bb + 3) (xs := l.map T.cells) rfl HI6.out.2.1 (tree_fit _) (ad := ⟨w5.heap.size, 0, none⟩) (c := 1) (y := [.int .i64 vk, .bool vb, .int .i64 vn, .string vs, .slice vA vnl vc, .slice vAK vnk vcK]) rfl (cells_at w5 [.int .i64 vk, .bool vb, .int .i64 vn, .string vs, .slice vA vnl vc, .slice vAK vnk vcK] 25) (by rw [HY.out]; exact tree_fit [_]) (by rw [List.length_map, HL.out]; omega) HI6.out.size (N := nl + 1) (by rw [List.length_map, HL.out]) ?_; intro A7 c7 w7 ho7 hg7 hb7 hA7; have HT6 := hide (TAt.grown (row := none) (World.grownBy_alloc w5 (.cells #[.int .i64 vk, .bool vb, .int .i64 vn, .string vs, .slice vA vnl vc, .slice vAK vnk vcK] 25) none) (fun q _ e => by cases e) HT5.out); have HI8 := hide (HI6.out.addL HT6.out hg7 (by rw [← HY.out]; exact ho7) hA7); have hb7_ := HI6.out.1.grown hg7 (by intro e; have := (HI6.out.2.1.lt _ e.symm).1; omega); clear ho7 hg7 hb7 hA7; clear c0 c1 c2 c3 c4 c5 lc fc; obtain ⟨c0, c1, c2, c3, c4, c5⟩ := At.z6 hb7_.at0; have lc := hb7_.lt; have fc := hb7_.free; clear hb7_)
              refine hK.out _ _ (by (try dsimp only); (exact ⟨trivial, trivial⟩)) (fun hHeld => ?_)
              clear hK K
              (try simp only [Act.put, List.setIfInBounds_toArray, List.set_cons_zero, List.set_cons_succ])
              refine wpAnyH_take (i := 7) (oi := ⟨some 70, _, _, _, _, _⟩) (v := ?_) rfl (by kernel_rfl) (by kernel_rfl) (by kernel_rfl) (fun _ _ _ h => h) (Or.inl ⟨by rfl, ?_⟩) (by assumption) ?_
              rotate_left
              · ((intro w hSw); (try dsimp only at hSw); go_simp; (try with_reducible rfl))
              (try simp only [Act.put, List.setIfInBounds_toArray, List.set_cons_zero, List.set_cons_succ])
              refine wpAnyH_ready (rs := [8]) (by kernel_rfl) (by simp) ?_
              refine AllReadyH.cons (o := ⟨none, _, _, _, _, _⟩) rfl (fun K hK => ?_) AllReadyH.nil
              go_simp
              refine hK.out _ _ (by (try dsimp only); (exact ⟨trivial, trivial⟩)) (fun hHeld => ?_)
              clear hK K
              (try simp only [Act.put, List.setIfInBounds_toArray, List.set_cons_zero, List.set_cons_succ])
              refine wpAnyH_done (by kernel_rfl) ?_ _
              go_wp2_with (go_at_call 21; (with_reducible refine (WH.out i4 hi5 _ HI8.out.pr).mono ?_); rintro e w9 ⟨rfl, hp9, hm9⟩; have hwb := white_bd hi5; have HI9 := hide (HI8.out.mv hm9 hp9); clear hp9 hm9)
              go_roundw
              case rel => exact ⟨f, whiteE s i4, false, l ++ [(.mk vk vb vn vs vA vc vl vAK vcK vks)], A7, c7, nl + 1, by omega, hwb.2, by omega, rfl, by show _ = _; rw [List.length_append, HL.out]; rfl, by omega, by show _ = _; rw [js_app, T.js, T.js, HVJ.out]; exact HTJ.out, HI9.out⟩
              case measure =>
                rw [Pr.pos HI9.out.pr, Pr.pos HI.out.pr]
                omega
            · obtain ⟨hS1, hS2⟩ := hHeld
              go_simp
              (go_at_call 22; (with_reducible refine (HVE.out _ (HIY.out.pr.fut)).mono ?_); rintro e w5 ⟨⟨vk, vb, vn, vs, vA, vc, vnl, vl, vAK, vcK, vnk, vks, rfl, HVL, HVJ, ht5, hp5, hi5⟩, hm5⟩; obtain ⟨hI5, hT5⟩ := HIY.out.val hm5 hp5 ht5; have HI5 := hide hI5; have HT5 := hide hT5; clear hI5 hT5 ht5 hp5 hm5; clear c0 c1 c2 c3 c4 c5 lc fc; obtain ⟨c0, c1, c2, c3, c4, c5⟩ := At.z6 HI5.out.1.at0; have lc := HI5.out.1.lt; have fc := HI5.out.1.free)
              refine hK.out _ _ (by (try dsimp only); (exact ⟨trivial, trivial⟩)) (fun hHeld => ?_)
              clear hK K
              (try simp only [Act.put, List.setIfInBounds_toArray, List.set_cons_zero, List.set_cons_succ])
              refine wpAnyH_ready (rs := [1, 5]) (by kernel_rfl) (by simp) ?_
              refine AllReadyH.cons (o := ⟨some 64, _, _, _, _, _⟩) rfl (fun K hK => ?_) (AllReadyH.cons (o := ⟨some 68, _, _, _, _, _⟩) rfl (fun K hK => ?_) AllReadyH.nil)
              · go_simp
                refine hK.out _ _ (by (try dsimp only); (exact ⟨trivial, trivial⟩)) (fun hHeld => ?_)
                clear hK K
                (try simp only [Act.put, List.setIfInBounds_toArray, List.set_cons_zero, List.set_cons_succ])
                refine wpAnyH_ready (rs := [5]) (by kernel_rfl) (by simp) ?_
                refine AllReadyH.cons (o := ⟨some 68, _, _, _, _, _⟩) rfl (fun K hK => ?_) AllReadyH.nil
                go_simp
                refine hK.out _ _ (by (try dsimp only); (exact ⟨trivial, trivial⟩)) (fun hHeld => ?_)
                clear hK K
                (try simp only [Act.put, List.setIfInBounds_toArray, List.set_cons_zero, List.set_cons_succ])
                refine wpAnyH_ready (rs := [6]) (by kernel_rfl) (by simp) ?_
                refine AllReadyH.cons (o := ⟨some 69, _, _, _, _, _⟩) rfl (fun K hK => ?_) AllReadyH.nil
                (have HI6 := hide (HI5.out.step (w2 := w5.alloc (.cells #[.int .i64 vk, .bool vb, .int .i64 vn, .string vs, .slice vA vnl vc, .slice vAK vnk vcK] 25))); have hy : [.int .i64 vk, .bool vb, .int .i64 vn, .string vs, .slice vA vnl vc, .slice vAK vnk vcK] = T.cells (.mk vk vb vn vs vA vc vl vAK vcK vks) := (by rw [T.cells, HVL.out.1, HVL.out.2]); have HY := hide hy; clear hy; refine step_append_slB rfl (.tmp 64) (.tmp 68) 22 rfl eiJ (base := bb + 3) (xs := l.map T.cells) rfl HI6.out.2.1 (tree_fit _) (ad := ⟨w5.heap.size, 0, none⟩) (c := 1) (y := [.int .i64 vk, .bool vb, .int .i64 vn, .string vs, .slice vA vnl vc, .slice vAK vnk vcK]) rfl (cells_at w5 [.int .i64 vk, .bool vb, .int .i64 vn, .string vs, .slice vA vnl vc, .slice vAK vnk vcK] 25) (by rw [HY.out]; exact tree_fit [_]) (by rw [List.length_map, HL.out]; omega) HI6.out.size (N := nl + 1) (by rw [List.length_map, HL.out]) ?_; intro A7 c7 w7 ho7 hg7 hb7 hA7; have HT6 := hide (TAt.grown (row := none) (World.grownBy_alloc w5 (.cells #[.int .i64 vk, .bool vb, .int .i64 vn, .string vs, .slice vA vnl vc, .slice vAK vnk vcK] 25) none) (fun q _ e => by cases e) HT5.out); have HI8 := hide (HI6.out.addL HT6.out hg7 (by rw [← HY.out]; exact ho7) hA7); have hb7_ := HI6.out.1.grown hg7 (by intro e; have := (HI6.out.2.1.lt _ e.symm).1; omega); clear ho7 hg7 hb7 hA7; clear c0 c1 c2 c3 c4 c5 lc fc; obtain ⟨c0, c1, c2, c3, c4, c5⟩ := At.z6 hb7_.at0; have lc := hb7_.lt; have fc := hb7_.free; clear hb7_)
                refine hK.out _ _ (by (try dsimp only); (exact ⟨trivial, trivial⟩)) (fun hHeld => ?_)
                clear hK K
                (try simp only [Act.put, List.setIfInBounds_toArray, List.set_cons_zero, List.set_cons_succ])
                refine wpAnyH_take (i := 7) (oi := ⟨some 70, _, _, _, _, _⟩) (v := ?_) rfl (by kernel_rfl) (by kernel_rfl) (by kernel_rfl) (fun _ _ _ h => h) (Or.inl ⟨by rfl, ?_⟩) (by assumption) ?_
                rotate_left
                · ((intro w hSw); (try dsimp only at hSw); go_simp; (try with_reducible rfl))
                (try simp only [Act.put, List.setIfInBounds_toArray, List.set_cons_zero, List.set_cons_succ])
                refine wpAnyH_ready (rs := [8]) (by kernel_rfl) (by simp) ?_
                refine AllReadyH.cons (o := ⟨none, _, _, _, _, _⟩) rfl (fun K hK => ?_) AllReadyH.nil
                go_simp
                refine hK.out _ _ (by (try dsimp only); (exact ⟨trivial, trivial⟩)) (fun hHeld => ?_)
                clear hK K
                (try simp only [Act.put, List.setIfInBounds_toArray, List.set_cons_zero, List.set_cons_succ])
                refine wpAnyH_done (by kernel_rfl) ?_ _
                go_wp2_with (go_at_call 21; (with_reducible refine (WH.out i4 hi5 _ HI8.out.pr).mono ?_); rintro e w9 ⟨rfl, hp9, hm9⟩; have hwb := white_bd hi5; have HI9 := hide (HI8.out.mv hm9 hp9); clear hp9 hm9)
                go_roundw
                case rel => exact ⟨f, whiteE s i4, false, l ++ [(.mk vk vb vn vs vA vc vl vAK vcK vks)], A7, c7, nl + 1, by omega, hwb.2, by omega, rfl, by show _ = _; rw [List.length_append, HL.out]; rfl, by omega, by show _ = _; rw [js_app, T.js, T.js, HVJ.out]; exact HTJ.out, HI9.out⟩
                case measure =>
                  rw [Pr.pos HI9.out.pr, Pr.pos HI.out.pr]
                  omega
              · go_simp
                refine hK.out _ _ (by (try dsimp only); (exact ⟨trivial, trivial⟩)) (fun hHeld => ?_)
                clear hK K
                (try simp only [Act.put, List.setIfInBounds_toArray, List.set_cons_zero, List.set_cons_succ])
                refine wpAnyH_ready (rs := [1]) (by kernel_rfl) (by simp) ?_
                refine AllReadyH.cons (o := ⟨some 64, _, _, _, _, _⟩) rfl (fun K hK => ?_) AllReadyH.nil
                go_simp
                refine hK.out _ _ (by (try dsimp only); (exact ⟨trivial, trivial⟩)) (fun hHeld => ?_)
                clear hK K
                (try simp only [Act.put, List.setIfInBounds_toArray, List.set_cons_zero, List.set_cons_succ])
                refine wpAnyH_ready (rs := [6]) (by kernel_rfl) (by simp) ?_
                refine AllReadyH.cons (o := ⟨some 69, _, _, _, _, _⟩) rfl (fun K hK => ?_) AllReadyH.nil
                (have HI6 := hide (HI5.out.step (w2 := w5.alloc (.cells #[.int .i64 vk, .bool vb, .int .i64 vn, .string vs, .slice vA vnl vc, .slice vAK vnk vcK] 25))); have hy : [.int .i64 vk, .bool vb, .int .i64 vn, .string vs, .slice vA vnl vc, .slice vAK vnk vcK] = T.cells (.mk vk vb vn vs vA vc vl vAK vcK vks) := (by rw [T.cells, HVL.out.1, HVL.out.2]); have HY := hide hy; clear hy; refine step_append_slB rfl (.tmp 64) (.tmp 68) 22 rfl eiJ (base := bb + 3) (xs := l.map T.cells) rfl HI6.out.2.1 (tree_fit _) (ad := ⟨w5.heap.size, 0, none⟩) (c := 1) (y := [.int .i64 vk, .bool vb, .int .i64 vn, .string vs, .slice vA vnl vc, .slice vAK vnk vcK]) rfl (cells_at w5 [.int .i64 vk, .bool vb, .int .i64 vn, .string vs, .slice vA vnl vc, .slice vAK vnk vcK] 25) (by rw [HY.out]; exact tree_fit [_]) (by rw [List.length_map, HL.out]; omega) HI6.out.size (N := nl + 1) (by rw [List.length_map, HL.out]) ?_; intro A7 c7 w7 ho7 hg7 hb7 hA7; have HT6 := hide (TAt.grown (row := none) (World.grownBy_alloc w5 (.cells #[.int .i64 vk, .bool vb, .int .i64 vn, .string vs, .slice vA vnl vc, .slice vAK vnk vcK] 25) none) (fun q _ e => by cases e) HT5.out); have HI8 := hide (HI6.out.addL HT6.out hg7 (by rw [← HY.out]; exact ho7) hA7); have hb7_ := HI6.out.1.grown hg7 (by intro e; have := (HI6.out.2.1.lt _ e.symm).1; omega); clear ho7 hg7 hb7 hA7; clear c0 c1 c2 c3 c4 c5 lc fc; obtain ⟨c0, c1, c2, c3, c4, c5⟩ := At.z6 hb7_.at0; have lc := hb7_.lt; have fc := hb7_.free; clear hb7_)
                refine hK.out _ _ (by (try dsimp only); (exact ⟨trivial, trivial⟩)) (fun hHeld => ?_)
                clear hK K
                (try simp only [Act.put, List.setIfInBounds_toArray, List.set_cons_zero, List.set_cons_succ])
                refine wpAnyH_take (i := 7) (oi := ⟨some 70, _, _, _, _, _⟩) (v := ?_) rfl (by kernel_rfl) (by kernel_rfl) (by kernel_rfl) (fun _ _ _ h => h) (Or.inl ⟨by rfl, ?_⟩) (by assumption) ?_
                rotate_left
                · ((intro w hSw); (try dsimp only at hSw); go_simp; (try with_reducible rfl))
                (try simp only [Act.put, List.setIfInBounds_toArray, List.set_cons_zero, List.set_cons_succ])
                refine wpAnyH_ready (rs := [8]) (by kernel_rfl) (by simp) ?_
                refine AllReadyH.cons (o := ⟨none, _, _, _, _, _⟩) rfl (fun K hK => ?_) AllReadyH.nil
                go_simp
                refine hK.out _ _ (by (try dsimp only); (exact ⟨trivial, trivial⟩)) (fun hHeld => ?_)
                clear hK K
                (try simp only [Act.put, List.setIfInBounds_toArray, List.set_cons_zero, List.set_cons_succ])
                refine wpAnyH_done (by kernel_rfl) ?_ _
                go_wp2_with (go_at_call 21; (with_reducible refine (WH.out i4 hi5 _ HI8.out.pr).mono ?_); rintro e w9 ⟨rfl, hp9, hm9⟩; have hwb := white_bd hi5; have HI9 := hide (HI8.out.mv hm9 hp9); clear hp9 hm9)
                go_roundw
                case rel => exact ⟨f, whiteE s i4, false, l ++ [(.mk vk vb vn vs vA vc vl vAK vcK vks)], A7, c7, nl + 1, by omega, hwb.2, by omega, rfl, by show _ = _; rw [List.length_append, HL.out]; rfl, by omega, by show _ = _; rw [js_app, T.js, T.js, HVJ.out]; exact HTJ.out, HI9.out⟩
                case measure =>
                  rw [Pr.pos HI9.out.pr, Pr.pos HI.out.pr]
                  omega
        · have HRE : Hid (r = .error 300) := by show _ = _; rw [HRR.out, ← HTX.out, el_comma (by exact he) hq]; rfl
          have TK := fun w' (hp : Pr w' g s k) => jtake_no g s k 44 w' hp hk (.inr hq) hs
          rw [show ((44 : Nat) : Int) = 44 from rfl] at TK
          have TK := hide TK
          obtain ⟨C, hC⟩ : ∃ C : Int, (bA s k : Int) = C := ⟨_, rfl⟩
          rw [hC] at NK hnc
          have NK := hide NK
          clear he hC HTX hq
          go_wp2_with (first | (go_at_call 32; (with_reducible refine (NK.out _ HI.out.pr).mono ?_); rintro e w6 ⟨rfl, hs6⟩; have HI6 := hide (HI.out.step (w2 := w6))) | (go_at_call 52; (with_reducible refine (TK.out _ HI6.out.pr).mono ?_); rintro e w7 ⟨rfl, hs7⟩))
          exact ⟨rfl, by rw [HRE.out]; rfl, HI6.out.mvd.fut⟩
end Go.Proofs.YtoibfefalflooaaDoor
