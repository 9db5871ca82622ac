/-
  The program's parser: an object.
-/
import Derived.Test.YtoibfefalflooaaDoorJn
namespace Go.Proofs.YtoibfefalflooaaDoor
open Go.RowKit

theorem InnAt.seen {g : Nat} {s : ByteArray} {bb : Nat} {K : Int} {w w1 : World} {k : Nat} {l : List T} {ks : List ByteArray} {A : Option Addr} {c nl : Nat} {AK : Option Addr} {cK nk n : Nat} {sk : List ByteArray} (h : InnAt g s bb K w w1 k l ks A c nl AK cK nk n sk) : Seen w1 (bb + 2) n sk := h.2.2.2.2.2.1
theorem textN_le {s : ByteArray} : ∀ (f i : Nat) (l : List UInt8) {m : List UInt8} {j : Nat}, textN s f i l = some (m, j) → l.length ≤ 4 * i → j ≤ s.size ∧ m.length ≤ 4 * j
  | 0, i, l, m, j, h, _ => by rw [textN] at h; cases h
  | f + 1, i, l, m, j, h, hl => by
    rw [textN] at h
    split at h
    · rename_i hq
      have := bA_lt (s := s) (i := i) (by omega)
      injection h with h; injection h with h1 h2; subst h1; omega
    · split at h
      · split at h
        · cases h
        · rename_i he
          obtain ⟨h1, h2⟩ := esc_len he
          exact textN_le f _ _ h (by rw [List.length_append]; omega)
      · split at h
        · cases h
        · rename_i hr
          exact textN_le f _ _ h (by rw [List.length_append, List.length_take]; omega)
theorem text_le {s : ByteArray} {i j : Nat} {t : ByteArray} (h : textP s i = some (t, j)) : j ≤ s.size ∧ t.size ≤ 4 * j := by
  unfold textP at h
  split at h
  · split at h
    · cases h
    · rename_i hd
      injection h with h; injection h with h1 h2
      have := textN_le _ _ _ hd (by simp)
      subst h1 h2
      rw [ofL_size]
      exact this
  · cases h

set_option maxRecDepth 100000 in
set_option maxHeartbeats 16000000 in
theorem inner_obj (g : Nat) (s : ByteArray) (i : Nat) (dp : Int) (hdp : ¬ dp > 16) (val : Nat → Except Int (J × Nat)) (hv : ∀ i j k, val i = .ok (j, k) → i < k)
    (HV : ∀ k w', Pr w' g s k → k ≤ s.size → Calls Tryd.prog 22 #[.pointer (some ⟨g, 0, none⟩), .int .i64 dp] w' fun e w'' => ValR w'.heap.size g s (val k) e w'' ∧ Mv g w' w'')
    (w : World) (h : Pr w g s i) (hi : i < s.size) (hs : s.size ≤ 65536) (r : Except Int (J × Nat)) (hr : innP val s true i = r) :
    Calls Tryd.prog 35 #[.pointer (some ⟨g, 0, none⟩), .int .u8 123, .int .i64 dp] w fun e w' => ValR w.heap.size g s r e w' ∧ Mv g w w' := by
  have HH := hide h
  have hlb := h.lt
  have hmm := @run_makeMap Tryd.prog
  have HVV := hide HV
  have HVG := hide hv
  have WH := hide (fun (k : Nat) (hk : k ≤ s.size) w' (hp : Pr w' g s k) => jwhite_any g s k w' hp hk hs)
  have NX := hide (fun (j : Nat) (hj : j ≤ s.size) w' (hp : Pr w' g s j) => jnext_any g s j w' hp hj hs)
  obtain ⟨R, hR⟩ : ∃ R, elemsP val s true (s.size + 1) (whiteE s (i + 1)) true [] [] = R := ⟨_, rfl⟩
  have HRR : Hid (r = outJ 5 R) := by show _ = _; rw [← hr, inn_out, hR]; rfl
  have HT := hide hR
  clear h hr hR HV hv
  obtain ⟨hw0, hw1⟩ := white_bd (s := s) (i := i + 1) (by omega)
  obtain ⟨k1, hk1⟩ : ∃ k1, whiteE s (i + 1) = k1 := ⟨_, rfl⟩
  have HK1 := hide hk1
  rw [hk1] at HT hw0 hw1
  clear hk1
  go_enter Tryd.func35, Tryd.ntmps35
  go_upto_region 7 with fail
  obtain ⟨W0, hW0⟩ : ∃ x : World, x = ((w.alloc (.cells #[.int .i64 0, .bool false, .int .i64 0, .string ⟨#[]⟩, .slice none 0 0, .slice none 0 0] 25)).alloc (.cells #[.int .i64 5, .bool false, .int .i64 0, .string ⟨#[]⟩, .slice none 0 0, .slice none 0 0] 25)).alloc (.map #[] 0) := ⟨_, rfl⟩
  have HI0 : Hid (InnAt g s w.heap.size 5 w W0 i [] [] none 0 0 none 0 0 0 []) := by
    rw [hW0]
    refine ⟨?_, Own.nil_ _ _ _ _, Own.nil_ _ _ _ _, (by rw [TAts]; trivial), ?_, ?_, ?_, Mv.of_step (w := w) Step.of, by simp, hlb, rfl⟩
    · exact (Blk.new_at (b := w.heap.size + 1) (by simp) [.int .i64 5, .bool false, .int .i64 0, .string ⟨#[]⟩, .slice none 0 0, .slice none 0 0] 25).alloc _
    · exact ((Blk.new w zeroC 25).alloc _).alloc _
    · have := Seen.made ((w.alloc (.cells #[.int .i64 0, .bool false, .int .i64 0, .string ⟨#[]⟩, .slice none 0 0, .slice none 0 0] 25)).alloc (.cells #[.int .i64 5, .bool false, .int .i64 0, .string ⟨#[]⟩, .slice none 0 0, .slice none 0 0] 25))
      simpa using this
    · exact ((HH.out.alloc _).alloc _).alloc _
  rw [← hW0]
  clear hW0 hmm
  obtain ⟨bb, hbb⟩ : ∃ n, w.heap.size = n := ⟨_, rfl⟩
  rw [hbb] at HI0 hlb
  rw [hbb]
  have HBE := hide hbb
  clear hbb
  obtain ⟨q0, q1⟩ := At.z2 HI0.out.pr.at0
  have lq := HI0.out.pr.lt
  have fq := HI0.out.pr.free
  have HPP : Hid (Pr (W0.setCell ⟨g, 1, none⟩ (.int .i64 ((i : Int) + 1))) g s (i + 1)) := Pr.put HI0.out.pr (by omega)
  have HIP := hide (HI0.out.mv (grown_setCell W0 g 1 (.int .i64 ((i : Int) + 1))) HPP.out)
  have hi1 : i + 1 ≤ s.size := by omega
  go_wp2_with (go_at_call 21; (with_reducible refine (WH.out (i + 1) hi1 _ HPP.out).mono ?_); rintro e w1 ⟨rfl, hp1, hm1⟩; rw [HK1.out] at hp1; have HI1 := hide (HIP.out.mv hm1 hp1); clear hp1 hm1)
  clear q0 q1 lq fq
  go_loopw [10, 11] (fun t _ wr => ∃ (f k : Nat) (fst : Bool) (l : List T) (A : Option Addr) (c nl : Nat) (ks : List ByteArray) (AK : Option Addr) (cK nk : Nat), i + 1 ≤ k ∧ k ≤ s.size ∧ s.size < f + k ∧ t = .bool fst ∧ Hid (l.length = nl) ∧ nl ≤ k ∧ Hid (ks.length = nk) ∧ nk ≤ k ∧ Hid (elemsP val s true f k fst (T.js l) ks = R) ∧ InnAt g s bb 5 w wr k l ks A c nl AK cK nk nk ks) (fun _ _ wr => s.size - posOf (wr.cell? ⟨g, 1, none⟩))
  case atStart => exact ⟨s.size + 1, k1, true, [], none, 0, 0, [], none, 0, 0, hw0, hw1, by omega, rfl, rfl, by omega, rfl, by omega, HT.out, HI1.out⟩
  case round =>
    obtain ⟨f, k, fst, l, A, c, nl, ks, AK, cK, nk, hik, hk, hf, rfl, HL, hnk, HKL, hnkk, HTX, hin⟩ := hrel
    clear HI0 HI1 HPP HIP
    have HI := hide hin
    clear hin
    obtain ⟨wo, rfl⟩ : ∃ x : World, x = wr := ⟨_, rfl⟩
    obtain ⟨f, rfl⟩ : ∃ q, f = q + 1 := ⟨f - 1, by omega⟩
    have NK := NX.out k hk
    by_cases he : bA s k = 125
    · have hkk : k < s.size := bA_lt (by omega)
      have HRS : Hid (r = .ok (.mk 5 false 0 ⟨#[]⟩ (T.js l) ks, k + 1)) := by show _ = _; rw [HRR.out, ← HTX.out, el_end (by rw [he]; rfl)]; rfl
      rw [he] at NK
      have NK := hide NK
      clear he
      go_upto_region 26 with (go_at_call 32; (with_reducible refine (NK.out _ HI.out.pr).mono ?_); rintro e w6 ⟨rfl, hs6⟩; have HI6 := hide (HI.out.step (w2 := w6)))
      obtain ⟨q0, q1⟩ := At.z2 HI6.out.pr.at0
      have lq := HI6.out.pr.lt
      have fq := HI6.out.pr.free
      go_upto_region 27 with fail
      have HI7 := hide (HI6.out.mv (grown_setCell w6 g 1 (.int .i64 ((k : Int) + 1))) (Pr.put (n := k + 1) HI6.out.pr (by omega)))
      obtain ⟨X, hX⟩ : ∃ x : World, x = w6.setCell ⟨g, 1, none⟩ (.int .i64 ((k : Int) + 1)) := ⟨_, rfl⟩
      rw [← hX] at HI7
      rw [← hX]
      clear hX q0 q1 lq fq HI6
      obtain ⟨c0, c1, c2, c3, c4, c5⟩ := At.z6 HI7.out.1.at0
      have lc := HI7.out.1.lt
      have fc := HI7.out.1.free
      obtain ⟨z0, z1, z2, z3, z4, z5⟩ := At.z6 HI7.out.zer.at0
      have lz := HI7.out.zer.lt
      have fz := HI7.out.zer.free
      go_wp2_with fail
      clear c0 c1 c2 c3 c4 c5 z0 z1 z2 z3 z4 z5
      have hF := set6_blk HI7.out.zer (.int .i64 5) (.bool false) (.int .i64 0) (.string ⟨#[]⟩) (.slice A nl c) (.slice AK nk cK)
      obtain ⟨c0, c1, c2, c3, c4, c5⟩ := At.z6 hF.at0
      unfold set6 at c0 c1 c2 c3 c4 c5
      refine bodyPost_ret (v := .agg #[.int .i64 5, .bool false, .int .i64 0, .string ⟨#[]⟩, .slice A nl c, .slice AK nk cK]) (by simp [results, Tryd.results35, go_sem, c0, c1, c2, c3, c4, c5]) rfl ?_
      obtain ⟨d1, d2, d3⟩ := HI7.out.done HL.out HKL.out
      exact ⟨by rw [HRS.out]; exact ⟨.mk 5 false 0 ⟨#[]⟩ A c l AK cK ks, by rw [T.cells, HL.out, HKL.out], rfl, TAt.weak (fun q hq => by rw [HBE.out]; exact hq) d1, d2, by omega⟩, d3⟩
    · have hnc : ((bA s k : Int) != 125) = true := bne_iff_ne.2 (by omega)
      cases fst with
      | true =>
        have HTS : Hid ((match textP s k with | none => .error 300 | some (q, i1) => if ks.contains q then .error 300 else if bA s (whiteE s i1) ≠ 58 then .error 300 else (match val (whiteE s (whiteE s i1 + 1)) with | .error e => .error e | .ok (j, i4) => elemsP val s true f (whiteE s i4) false (T.js l ++ [j]) (ks ++ [q]))) = R) := by show _ = _; rw [← HTX.out, el_obj he (by simp)]; rfl
        obtain ⟨C, hC⟩ : ∃ C : Int, (bA s k : Int) = C := ⟨_, rfl⟩
        rw [hC] at NK hnc
        have NK := hide NK
        clear he hC HTX
        have hkk0 : k ≤ k := Nat.le_refl _
        have hk0 : k ≤ s.size := hk
        go_upto_region 15 with (go_at_call 32; (with_reducible refine (NK.out _ HI.out.pr).mono ?_); rintro e wy ⟨rfl, hs6⟩; have HIY := hide (HI.out.step (w2 := wy)))
        cases htx : textP s k with
        | none =>
          have HRE : Hid (r = .error 300) := by show _ = _; rw [HRR.out, ← HTS.out, htx]; rfl
          have TXX : Hid (∀ w', Pr w' g s k → Calls Tryd.prog 34 #[.pointer (some ⟨g, 0, none⟩)] w' fun e w'' => e = .panicked [{ v := fault 300, recovered := false }] ∧ Mv g w' w'') := fun w' hp => jtext_any g s k none w' hp hk0 htx hs
          clear htx HTS
          obtain ⟨c0, c1, c2, c3, c4, c5⟩ := At.z6 HIY.out.1.at0; have lc := HIY.out.1.lt; have fc := HIY.out.1.free
          go_wp2_with (go_at_call 34; (with_reducible refine (TXX.out _ HIY.out.pr).mono ?_); rintro e w3 ⟨rfl, hm3⟩)
          exact ⟨rfl, by rw [HRE.out]; rfl, grown_trans HIY.out.mvd hm3⟩
        | some qi =>
          obtain ⟨q, i1⟩ := qi
          have hi1g := text_gt htx
          obtain ⟨hi1s, hq4⟩ := text_le htx
          have hqs : q.size ≤ maxLen := by simp only [maxLen]; omega
          have TXX : Hid (∀ w', Pr w' g s k → Calls Tryd.prog 34 #[.pointer (some ⟨g, 0, none⟩)] w' fun e w'' => (e = .returned (.string q) ∧ Pr w'' g s i1 ∧ i1 ≤ s.size) ∧ Mv g w' w'') := fun w' hp => jtext_any g s k (some (q, i1)) w' hp hk0 htx hs
          have HTS2 : Hid ((if ks.contains q then .error 300 else if bA s (whiteE s i1) ≠ 58 then .error 300 else (match val (whiteE s (whiteE s i1 + 1)) with | .error e => .error e | .ok (j, i4) => elemsP val s true f (whiteE s i4) false (T.js l ++ [j]) (ks ++ [q]))) = R) := by have h_ := HTS.out; rw [htx] at h_; exact h_
          clear htx HTS
          obtain ⟨c0, c1, c2, c3, c4, c5⟩ := At.z6 HIY.out.1.at0; have lc := HIY.out.1.lt; have fc := HIY.out.1.free
          cases hct : ks.contains q with
          | true =>
            have HRE : Hid (r = .error 300) := by show _ = _; rw [HRR.out, ← HTS2.out, if_pos hct]; rfl
            have HCT := hide hct
            clear hct HTS2
            go_wp2_with (first | (go_at_call 34; (with_reducible refine (TXX.out _ HIY.out.pr).mono ?_); rintro e w3 ⟨⟨rfl, hp3, hj3⟩, hm3⟩; have HI3 := hide (HIY.out.mv hm3 hp3); have hlk : (Instr.lookup 84 (.map (some (bb + 1 + 1))) (.string q) false).run Tryd.prog w3 = .ok (.bool true) w3 := (by have h_ := HI3.out.seen.look q hqs; rw [HCT.out] at h_; exact h_); clear hp3 hm3; clear c0 c1 c2 c3 c4 c5 lc fc) | (go_at_call 23; (with_reducible refine (bad_any _).mono ?_); rintro e w9 ⟨rfl, rfl⟩))
            exact ⟨rfl, by rw [HRE.out]; rfl, HI3.out.mvd.fut⟩
          | false =>
            have HCT := hide hct
            have HTS3 : Hid ((if bA s (whiteE s i1) ≠ 58 then .error 300 else (match val (whiteE s (whiteE s i1 + 1)) with | .error e => .error e | .ok (j, i4) => elemsP val s true f (whiteE s i4) false (T.js l ++ [j]) (ks ++ [q]))) = R) := by have h_ := HTS2.out; rw [if_neg (by rw [hct]; simp)] at h_; exact h_
            clear hct HTS2
            have hw2 := white_bd hi1s
            obtain ⟨i2, hi2⟩ : ∃ i2, whiteE s i1 = i2 := ⟨_, rfl⟩
            have HW1 := hide hi2
            rw [hi2] at HTS3 hw2
            clear hi2
            by_cases hco : bA s i2 = 58
            · have hi2l : i2 < s.size := bA_lt (by omega)
              have hi2s : i2 + 1 ≤ s.size := by omega
              have TK2 := hide (fun w' (hp : Pr w' g s i2) => jtake_yes g s i2 58 w' hp hi2l (by rw [← bA_at hi2l, hco]; rfl) hs)
              have HTS : Hid ((match val (whiteE s (i2 + 1)) with | .error e => .error e | .ok (j, i4) => elemsP val s true f (whiteE s i4) false (T.js l ++ [j]) (ks ++ [q])) = R) := by have h_ := HTS3.out; rw [if_neg (by simp [hco])] at h_; exact h_
              have hw3 := white_bd hi2s
              obtain ⟨i3, hi3⟩ : ∃ i3, whiteE s (i2 + 1) = i3 := ⟨_, rfl⟩
              have HW2 := hide hi3
              rw [hi3] at HTS hw3
              clear hi3 HTS3 hco
              have hk0 : i3 ≤ s.size := hw3.2
              have hkk0 : k ≤ i3 := by omega
              go_upto_region 24 with (first | (go_at_call 34; (with_reducible refine (TXX.out _ HIY.out.pr).mono ?_); rintro e w3 ⟨⟨rfl, hp3, hj3⟩, hm3⟩; have HI3 := hide (HIY.out.mv hm3 hp3); have hlk : (Instr.lookup 84 (.map (some (bb + 1 + 1))) (.string q) false).run Tryd.prog w3 = .ok (.bool false) w3 := (by have h_ := HI3.out.seen.look q hqs; rw [HCT.out] at h_; exact h_); clear hp3 hm3; clear c0 c1 c2 c3 c4 c5 lc fc) | (at_mapUpdate; refine wpList_seen rfl (.tmp 49) (.tmp 50) (.const (.bool true)) rfl (m := bb + 2) (n := nk) (ks := ks) (k := q) rfl rfl rfl HI3.out.seen hqs (by simp only [maxLen]; omega) ?_; intro w4 hs4 hg4; have HI4 := hide (HI3.out.see hg4 hs4); clear hs4 hg4 hlk; obtain ⟨c0, c1, c2, c3, c4, c5⟩ := At.z6 HI4.out.1.at0; have lc := HI4.out.1.lt; have fc := HI4.out.1.free) | (at_builtin; have HI5 := hide (HI4.out.step (w2 := w4.alloc (.cells #[.string q] 9))); refine wpList_append_slB rfl (.tmp 52) (.tmp 54) 23 rfl eiK (base := bb + 3) (xs := strCells ks) rfl HI5.out.2.2.1 (keys_fit _) (ad := ⟨w4.heap.size, 0, none⟩) (c := 1) (y := [.string q]) rfl (cells_at w4 [.string q] 9) (keys_fit [q]) (by rw [strCells, List.length_map, HKL.out]; omega) HI5.out.size (N := nk + 1) (by rw [strCells, List.length_map, HKL.out]) ?_; intro A5 c5_ w5 ho5 hg5 hb5 hA5; have HI6 := hide (HI5.out.addK hg5 ho5 hA5); have hb5_ := HI5.out.1.grown hg5 (by intro e; have := (HI5.out.2.2.1.lt _ e.symm).1; omega); clear ho5 hg5 hb5 hA5; clear c0 c1 c2 c3 c4 c5 lc fc; obtain ⟨c0, c1, c2, c3, c4, c5⟩ := At.z6 hb5_.at0; have lc := hb5_.lt; have fc := hb5_.free; clear hb5_) | (go_at_call 21; (with_reducible refine (WH.out i1 hi1s _ HI6.out.pr).mono ?_); rintro e w7 ⟨rfl, hp7, hm7⟩; rw [HW1.out] at hp7; have HI7 := hide (HI6.out.mv hm7 hp7); clear hp7 hm7; clear c0 c1 c2 c3 c4 c5 lc fc) | (go_at_call 52; (with_reducible refine (TK2.out _ HI7.out.pr).mono ?_); rintro e w8 ⟨rfl, hp8, hm8⟩; have HI8 := hide (HI7.out.mv hm8 hp8); clear hp8 hm8) | (go_at_call 21; (with_reducible refine (WH.out (i2 + 1) hi2s _ HI8.out.pr).mono ?_); rintro e w9 ⟨rfl, hp9, hm9⟩; rw [HW2.out] at hp9; clear HIY; have HIY := hide (HI8.out.mv hm9 hp9); clear hp9 hm9))
              have HVK := HVV.out i3
              cases hvv : val i3 with
              | error ec =>
                have HRE : Hid (r = .error ec) := by show _ = _; rw [HRR.out, ← HTS.out, hvv]; rfl
                have HVE : Hid (∀ w', Pr w' g s i3 → Calls Tryd.prog 22 #[.pointer (some ⟨g, 0, none⟩), .int .i64 dp] w' fun e w'' => e = .panicked [{ v := fault ec, recovered := false }] ∧ Mv g w' w'') := fun w' hp => by have h_ := HVK w' hp hk0; rw [hvv] at h_; exact h_
                clear hvv HTS HVK
                obtain ⟨c0, c1, c2, c3, c4, c5⟩ := At.z6 HIY.out.1.at0; have lc := HIY.out.1.lt; have fc := HIY.out.1.free
                refine wp_region_held_drew (S := (fun _ => True ∧ True)) (by kernel_rfl) (by (try dsimp only); (exact ⟨trivial, trivial⟩)) (fun hHeld => ?_)
                refine wpAnyH_take (i := 0) (oi := ⟨some 63, _, _, _, _, _⟩) (v := ?_) rfl (by kernel_rfl) (by kernel_rfl) (by kernel_rfl) (fun _ _ _ h => h) (Or.inl ⟨by rfl, ?_⟩) (by assumption) ?_
                rotate_left
                · ((intro w hSw); (try dsimp only at hSw); go_simp; (try with_reducible rfl))
                (try simp only [Act.put, List.setIfInBounds_toArray, List.set_cons_zero, List.set_cons_succ])
                refine wpAnyH_take (i := 2) (oi := ⟨some 65, _, _, _, _, _⟩) (v := ?_) rfl (by kernel_rfl) (by kernel_rfl) (by kernel_rfl) (fun _ _ _ h => h) (Or.inl ⟨by rfl, ?_⟩) (by assumption) ?_
                rotate_left
                · ((intro w hSw); (try dsimp only at hSw); go_simp; (try with_reducible rfl))
                (try simp only [Act.put, List.setIfInBounds_toArray, List.set_cons_zero, List.set_cons_succ])
                refine wpAnyH_take (i := 3) (oi := ⟨some 66, _, _, _, _, _⟩) (v := ?_) rfl (by kernel_rfl) (by kernel_rfl) (by kernel_rfl) (fun _ _ _ h => h) (Or.inl ⟨by rfl, ?_⟩) (by assumption) ?_
                rotate_left
                · ((intro w hSw); (try dsimp only at hSw); go_simp; (try with_reducible rfl))
                (try simp only [Act.put, List.setIfInBounds_toArray, List.set_cons_zero, List.set_cons_succ])
                refine wpAnyH_ready (rs := [1, 4]) (by kernel_rfl) (by simp) ?_
                refine AllReadyH.cons (o := ⟨some 64, _, _, _, _, _⟩) rfl (fun K hK => ?_) (AllReadyH.cons (o := ⟨some 67, _, _, _, _, _⟩) rfl (fun K hK => ?_) AllReadyH.nil)
                · go_simp
                  refine hK.out _ _ (by (try dsimp only); (exact ⟨trivial, trivial⟩)) (fun hHeld => ?_)
                  clear hK K
                  (try simp only [Act.put, List.setIfInBounds_toArray, List.set_cons_zero, List.set_cons_succ])
                  refine wpAnyH_ready (rs := [4]) (by kernel_rfl) (by simp) ?_
                  refine AllReadyH.cons (o := ⟨some 67, _, _, _, _, _⟩) rfl (fun K hK => ?_) AllReadyH.nil
                  obtain ⟨hS1, hS2⟩ := hHeld
                  go_simp
                  (go_at_call 22; (with_reducible refine (HVE.out _ (HIY.out.pr.fut)).mono ?_); rintro e w5 ⟨rfl, hm5⟩; exact ⟨rfl, by rw [HRE.out]; rfl, grown_trans HIY.out.mvd.fut hm5⟩)
                · obtain ⟨hS1, hS2⟩ := hHeld
                  go_simp
                  (go_at_call 22; (with_reducible refine (HVE.out _ (HIY.out.pr.fut)).mono ?_); rintro e w5 ⟨rfl, hm5⟩; exact ⟨rfl, by rw [HRE.out]; rfl, grown_trans HIY.out.mvd.fut hm5⟩)
              | ok ji =>
                obtain ⟨j, i4⟩ := ji
                have HTJ : Hid (elemsP val s true f (whiteE s i4) false (T.js l ++ [j]) (ks ++ [q]) = R) := by have := HTS.out; rw [hvv] at this; exact this
                have hgt := HVG.out _ _ _ hvv
                have HVE : Hid (∀ w', Pr w' g s i3 → Calls Tryd.prog 22 #[.pointer (some ⟨g, 0, none⟩), .int .i64 dp] w' fun e w'' => (∃ (vk : Int) (vb : Bool) (vn : Int) (vs : ByteArray) (vA : Option Addr) (vc vnl : Nat) (vl : List T) (vAK : Option Addr) (vcK vnk : Nat) (vks : List ByteArray), e = .returned (.agg #[.int .i64 vk, .bool vb, .int .i64 vn, .string vs, .slice vA vnl vc, .slice vAK vnk vcK]) ∧ Hid (vl.length = vnl ∧ vks.length = vnk) ∧ Hid (T.j (.mk vk vb vn vs vA vc vl vAK vcK vks) = j) ∧ TAt w'' (fun q => w'.heap.size ≤ q) (.mk vk vb vn vs vA vc vl vAK vcK vks) ∧ Pr w'' g s i4 ∧ i4 ≤ s.size) ∧ Mv g w' w'') := fun w' hp => by
                  have h_ := HVK w' hp hk0
                  rw [hvv] at h_
                  exact h_.mono fun e w'' hh => by
                    obtain ⟨⟨t, h1, h2, h3, h4, h5⟩, h6⟩ := hh
                    cases t with
                    | mk vk vb vn vs vA vc vl vAK vcK vks => exact ⟨⟨vk, vb, vn, vs, vA, vc, _, vl, vAK, vcK, _, vks, h1, ⟨rfl, rfl⟩, h2, h3, h4, h5⟩, h6⟩
                clear hvv HTS HVK
                obtain ⟨c0, c1, c2, c3, c4, c5⟩ := At.z6 HIY.out.1.at0; have lc := HIY.out.1.lt; have fc := HIY.out.1.free
                refine wp_region_held_drew (S := (fun _ => True ∧ True)) (by kernel_rfl) (by (try dsimp only); (exact ⟨trivial, trivial⟩)) (fun hHeld => ?_)
                refine wpAnyH_take (i := 0) (oi := ⟨some 63, _, _, _, _, _⟩) (v := ?_) rfl (by kernel_rfl) (by kernel_rfl) (by kernel_rfl) (fun _ _ _ h => h) (Or.inl ⟨by rfl, ?_⟩) (by assumption) ?_
                rotate_left
                · ((intro w hSw); (try dsimp only at hSw); go_simp; (try with_reducible rfl))
                (try simp only [Act.put, List.setIfInBounds_toArray, List.set_cons_zero, List.set_cons_succ])
                refine wpAnyH_take (i := 2) (oi := ⟨some 65, _, _, _, _, _⟩) (v := ?_) rfl (by kernel_rfl) (by kernel_rfl) (by kernel_rfl) (fun _ _ _ h => h) (Or.inl ⟨by rfl, ?_⟩) (by assumption) ?_
                rotate_left
                · ((intro w hSw); (try dsimp only at hSw); go_simp; (try with_reducible rfl))
                (try simp only [Act.put, List.setIfInBounds_toArray, List.set_cons_zero, List.set_cons_succ])
                refine wpAnyH_take (i := 3) (oi := ⟨some 66, _, _, _, _, _⟩) (v := ?_) rfl (by kernel_rfl) (by kernel_rfl) (by kernel_rfl) (fun _ _ _ h => h) (Or.inl ⟨by rfl, ?_⟩) (by assumption) ?_
                rotate_left
                · ((intro w hSw); (try dsimp only at hSw); go_simp; (try with_reducible rfl))
                (try simp only [Act.put, List.setIfInBounds_toArray, List.set_cons_zero, List.set_cons_succ])
                refine wpAnyH_ready (rs := [1, 4]) (by kernel_rfl) (by simp) ?_
                refine AllReadyH.cons (o := ⟨some 64, _, _, _, _, _⟩) rfl (fun K hK => ?_) (AllReadyH.cons (o := ⟨some 67, _, _, _, _, _⟩) rfl (fun K hK => ?_) AllReadyH.nil)
                · go_simp
                  refine hK.out _ _ (by (try dsimp only); (exact ⟨trivial, trivial⟩)) (fun hHeld => ?_)
                  clear hK K
                  (try simp only [Act.put, List.setIfInBounds_toArray, List.set_cons_zero, List.set_cons_succ])
                  refine wpAnyH_ready (rs := [4]) (by kernel_rfl) (by simp) ?_
                  refine AllReadyH.cons (o := ⟨some 67, _, _, _, _, _⟩) rfl (fun K hK => ?_) AllReadyH.nil
                  obtain ⟨hS1, hS2⟩ := hHeld
                  go_simp
                  (go_at_call 22; (with_reducible refine (HVE.out _ (HIY.out.pr.fut)).mono ?_); rintro e w5 ⟨⟨vk, vb, vn, vs, vA, vc, vnl, vl, vAK, vcK, vnk, vks, rfl, HVL, HVJ, ht5, hp5, hi5⟩, hm5⟩; obtain ⟨hI5, hT5⟩ := HIY.out.val hm5 hp5 ht5; have HI5 := hide hI5; have HT5 := hide hT5; clear hI5 hT5 ht5 hp5 hm5; clear c0 c1 c2 c3 c4 c5 lc fc; obtain ⟨c0, c1, c2, c3, c4, c5⟩ := At.z6 HI5.out.1.at0; have lc := HI5.out.1.lt; have fc := HI5.out.1.free)
                  refine hK.out _ _ (by (try dsimp only); (exact ⟨trivial, trivial⟩)) (fun hHeld => ?_)
                  clear hK K
                  (try simp only [Act.put, List.setIfInBounds_toArray, List.set_cons_zero, List.set_cons_succ])
                  refine wpAnyH_ready (rs := [5]) (by kernel_rfl) (by simp) ?_
                  refine AllReadyH.cons (o := ⟨some 68, _, _, _, _, _⟩) rfl (fun K hK => ?_) AllReadyH.nil
                  go_simp
                  refine hK.out _ _ (by (try dsimp only); (exact ⟨trivial, trivial⟩)) (fun hHeld => ?_)
                  clear hK K
                  (try simp only [Act.put, List.setIfInBounds_toArray, List.set_cons_zero, List.set_cons_succ])
                  refine wpAnyH_ready (rs := [6]) (by kernel_rfl) (by simp) ?_
                  refine AllReadyH.cons (o := ⟨some 69, _, _, _, _, _⟩) rfl (fun K hK => ?_) AllReadyH.nil
                  (have HI6 := hide (HI5.out.step (w2 := w5.alloc (.cells #[.int .i64 vk, .bool vb, .int .i64 vn, .string vs, .slice vA vnl vc, .slice vAK vnk vcK] 25))); have hy : [.int .i64 vk, .bool vb, .int .i64 vn, .string vs, .slice vA vnl vc, .slice vAK vnk vcK] = T.cells (.mk vk vb vn vs vA vc vl vAK vcK vks) := (by rw [T.cells, HVL.out.1, HVL.out.2]); have HY := hide hy; clear hy; refine step_append_slB rfl (.tmp 64) (.tmp 68) 22 rfl eiJ (base := bb + 3) (xs := l.map T.cells) rfl HI6.out.2.1 (tree_fit _) (ad := ⟨w5.heap.size, 0, none⟩) (c := 1) (y := [.int .i64 vk, .bool vb, .int .i64 vn, .string vs, .slice vA vnl vc, .slice vAK vnk vcK]) rfl (cells_at w5 [.int .i64 vk, .bool vb, .int .i64 vn, .string vs, .slice vA vnl vc, .slice vAK vnk vcK] 25) (by rw [HY.out]; exact tree_fit [_]) (by rw [List.length_map, HL.out]; omega) HI6.out.size (N := nl + 1) (by rw [List.length_map, HL.out]) ?_; intro A7 c7 w7 ho7 hg7 hb7 hA7; have HT6 := hide (TAt.grown (row := none) (World.grownBy_alloc w5 (.cells #[.int .i64 vk, .bool vb, .int .i64 vn, .string vs, .slice vA vnl vc, .slice vAK vnk vcK] 25) none) (fun q _ e => by cases e) HT5.out); have HI8 := hide (HI6.out.addL HT6.out hg7 (by rw [← HY.out]; exact ho7) hA7); have hb7_ := HI6.out.1.grown hg7 (by intro e; have := (HI6.out.2.1.lt _ e.symm).1; omega); clear ho7 hg7 hb7 hA7; clear c0 c1 c2 c3 c4 c5 lc fc; obtain ⟨c0, c1, c2, c3, c4, c5⟩ := At.z6 hb7_.at0; have lc := hb7_.lt; have fc := hb7_.free; clear hb7_)
                  refine hK.out _ _ (by (try dsimp only); (exact ⟨trivial, trivial⟩)) (fun hHeld => ?_)
                  clear hK K
                  (try simp only [Act.put, List.setIfInBounds_toArray, List.set_cons_zero, List.set_cons_succ])
                  refine wpAnyH_take (i := 7) (oi := ⟨some 70, _, _, _, _, _⟩) (v := ?_) rfl (by kernel_rfl) (by kernel_rfl) (by kernel_rfl) (fun _ _ _ h => h) (Or.inl ⟨by rfl, ?_⟩) (by assumption) ?_
                  rotate_left
                  · ((intro w hSw); (try dsimp only at hSw); go_simp; (try with_reducible rfl))
                  (try simp only [Act.put, List.setIfInBounds_toArray, List.set_cons_zero, List.set_cons_succ])
                  refine wpAnyH_ready (rs := [8]) (by kernel_rfl) (by simp) ?_
                  refine AllReadyH.cons (o := ⟨none, _, _, _, _, _⟩) rfl (fun K hK => ?_) AllReadyH.nil
                  go_simp
                  refine hK.out _ _ (by (try dsimp only); (exact ⟨trivial, trivial⟩)) (fun hHeld => ?_)
                  clear hK K
                  (try simp only [Act.put, List.setIfInBounds_toArray, List.set_cons_zero, List.set_cons_succ])
                  refine wpAnyH_done (by kernel_rfl) ?_ _
                  go_wp2_with (go_at_call 21; (with_reducible refine (WH.out i4 hi5 _ HI8.out.pr).mono ?_); rintro e w9 ⟨rfl, hp9, hm9⟩; have hwb := white_bd hi5; have HI9 := hide (HI8.out.mv hm9 hp9); clear hp9 hm9)
                  go_roundw
                  case rel => exact ⟨f, whiteE s i4, false, l ++ [(.mk vk vb vn vs vA vc vl vAK vcK vks)], A7, c7, nl + 1, ks ++ [q], A5, c5_, nk + 1, by omega, hwb.2, by omega, rfl, by show _ = _; rw [List.length_append, HL.out]; rfl, by omega, by show _ = _; rw [List.length_append, HKL.out]; rfl, by omega, by show _ = _; rw [js_app, T.js, T.js, HVJ.out]; exact HTJ.out, HI9.out⟩
                  case measure =>
                    rw [Pr.pos HI9.out.pr, Pr.pos HI.out.pr]
                    omega
                · obtain ⟨hS1, hS2⟩ := hHeld
                  go_simp
                  (go_at_call 22; (with_reducible refine (HVE.out _ (HIY.out.pr.fut)).mono ?_); rintro e w5 ⟨⟨vk, vb, vn, vs, vA, vc, vnl, vl, vAK, vcK, vnk, vks, rfl, HVL, HVJ, ht5, hp5, hi5⟩, hm5⟩; obtain ⟨hI5, hT5⟩ := HIY.out.val hm5 hp5 ht5; have HI5 := hide hI5; have HT5 := hide hT5; clear hI5 hT5 ht5 hp5 hm5; clear c0 c1 c2 c3 c4 c5 lc fc; obtain ⟨c0, c1, c2, c3, c4, c5⟩ := At.z6 HI5.out.1.at0; have lc := HI5.out.1.lt; have fc := HI5.out.1.free)
                  refine hK.out _ _ (by (try dsimp only); (exact ⟨trivial, trivial⟩)) (fun hHeld => ?_)
                  clear hK K
                  (try simp only [Act.put, List.setIfInBounds_toArray, List.set_cons_zero, List.set_cons_succ])
                  refine wpAnyH_ready (rs := [1, 5]) (by kernel_rfl) (by simp) ?_
                  refine AllReadyH.cons (o := ⟨some 64, _, _, _, _, _⟩) rfl (fun K hK => ?_) (AllReadyH.cons (o := ⟨some 68, _, _, _, _, _⟩) rfl (fun K hK => ?_) AllReadyH.nil)
                  · go_simp
                    refine hK.out _ _ (by (try dsimp only); (exact ⟨trivial, trivial⟩)) (fun hHeld => ?_)
                    clear hK K
                    (try simp only [Act.put, List.setIfInBounds_toArray, List.set_cons_zero, List.set_cons_succ])
                    refine wpAnyH_ready (rs := [5]) (by kernel_rfl) (by simp) ?_
                    refine AllReadyH.cons (o := ⟨some 68, _, _, _, _, _⟩) rfl (fun K hK => ?_) AllReadyH.nil
                    go_simp
                    refine hK.out _ _ (by (try dsimp only); (exact ⟨trivial, trivial⟩)) (fun hHeld => ?_)
                    clear hK K
                    (try simp only [Act.put, List.setIfInBounds_toArray, List.set_cons_zero, List.set_cons_succ])
                    refine wpAnyH_ready (rs := [6]) (by kernel_rfl) (by simp) ?_
                    refine AllReadyH.cons (o := ⟨some 69, _, _, _, _, _⟩) rfl (fun K hK => ?_) AllReadyH.nil
                    (have HI6 := hide (HI5.out.step (w2 := w5.alloc (.cells #[.int .i64 vk, .bool vb, .int .i64 vn, .string vs, .slice vA vnl vc, .slice vAK vnk vcK] 25))); have hy : [.int .i64 vk, .bool vb, .int .i64 vn, .string vs, .slice vA vnl vc, .slice vAK vnk vcK] = T.cells (.mk vk vb vn vs vA vc vl vAK vcK vks) := (by rw [T.cells, HVL.out.1, HVL.out.2]); have HY := hide hy; clear hy; refine step_append_slB rfl (.tmp 64) (.tmp 68) 22 rfl eiJ (base := bb + 3) (xs := l.map T.cells) rfl HI6.out.2.1 (tree_fit _) (ad := ⟨w5.heap.size, 0, none⟩) (c := 1) (y := [.int .i64 vk, .bool vb, .int .i64 vn, .string vs, .slice vA vnl vc, .slice vAK vnk vcK]) rfl (cells_at w5 [.int .i64 vk, .bool vb, .int .i64 vn, .string vs, .slice vA vnl vc, .slice vAK vnk vcK] 25) (by rw [HY.out]; exact tree_fit [_]) (by rw [List.length_map, HL.out]; omega) HI6.out.size (N := nl + 1) (by rw [List.length_map, HL.out]) ?_; intro A7 c7 w7 ho7 hg7 hb7 hA7; have HT6 := hide (TAt.grown (row := none) (World.grownBy_alloc w5 (.cells #[.int .i64 vk, .bool vb, .int .i64 vn, .string vs, .slice vA vnl vc, .slice vAK vnk vcK] 25) none) (fun q _ e => by cases e) HT5.out); have HI8 := hide (HI6.out.addL HT6.out hg7 (by rw [← HY.out]; exact ho7) hA7); have hb7_ := HI6.out.1.grown hg7 (by intro e; have := (HI6.out.2.1.lt _ e.symm).1; omega); clear ho7 hg7 hb7 hA7; clear c0 c1 c2 c3 c4 c5 lc fc; obtain ⟨c0, c1, c2, c3, c4, c5⟩ := At.z6 hb7_.at0; have lc := hb7_.lt; have fc := hb7_.free; clear hb7_)
                    refine hK.out _ _ (by (try dsimp only); (exact ⟨trivial, trivial⟩)) (fun hHeld => ?_)
                    clear hK K
                    (try simp only [Act.put, List.setIfInBounds_toArray, List.set_cons_zero, List.set_cons_succ])
                    refine wpAnyH_take (i := 7) (oi := ⟨some 70, _, _, _, _, _⟩) (v := ?_) rfl (by kernel_rfl) (by kernel_rfl) (by kernel_rfl) (fun _ _ _ h => h) (Or.inl ⟨by rfl, ?_⟩) (by assumption) ?_
                    rotate_left
                    · ((intro w hSw); (try dsimp only at hSw); go_simp; (try with_reducible rfl))
                    (try simp only [Act.put, List.setIfInBounds_toArray, List.set_cons_zero, List.set_cons_succ])
                    refine wpAnyH_ready (rs := [8]) (by kernel_rfl) (by simp) ?_
                    refine AllReadyH.cons (o := ⟨none, _, _, _, _, _⟩) rfl (fun K hK => ?_) AllReadyH.nil
                    go_simp
                    refine hK.out _ _ (by (try dsimp only); (exact ⟨trivial, trivial⟩)) (fun hHeld => ?_)
                    clear hK K
                    (try simp only [Act.put, List.setIfInBounds_toArray, List.set_cons_zero, List.set_cons_succ])
                    refine wpAnyH_done (by kernel_rfl) ?_ _
                    go_wp2_with (go_at_call 21; (with_reducible refine (WH.out i4 hi5 _ HI8.out.pr).mono ?_); rintro e w9 ⟨rfl, hp9, hm9⟩; have hwb := white_bd hi5; have HI9 := hide (HI8.out.mv hm9 hp9); clear hp9 hm9)
                    go_roundw
                    case rel => exact ⟨f, whiteE s i4, false, l ++ [(.mk vk vb vn vs vA vc vl vAK vcK vks)], A7, c7, nl + 1, ks ++ [q], A5, c5_, nk + 1, by omega, hwb.2, by omega, rfl, by show _ = _; rw [List.length_append, HL.out]; rfl, by omega, by show _ = _; rw [List.length_append, HKL.out]; rfl, by omega, by show _ = _; rw [js_app, T.js, T.js, HVJ.out]; exact HTJ.out, HI9.out⟩
                    case measure =>
                      rw [Pr.pos HI9.out.pr, Pr.pos HI.out.pr]
                      omega
                  · go_simp
                    refine hK.out _ _ (by (try dsimp only); (exact ⟨trivial, trivial⟩)) (fun hHeld => ?_)
                    clear hK K
                    (try simp only [Act.put, List.setIfInBounds_toArray, List.set_cons_zero, List.set_cons_succ])
                    refine wpAnyH_ready (rs := [1]) (by kernel_rfl) (by simp) ?_
                    refine AllReadyH.cons (o := ⟨some 64, _, _, _, _, _⟩) rfl (fun K hK => ?_) AllReadyH.nil
                    go_simp
                    refine hK.out _ _ (by (try dsimp only); (exact ⟨trivial, trivial⟩)) (fun hHeld => ?_)
                    clear hK K
                    (try simp only [Act.put, List.setIfInBounds_toArray, List.set_cons_zero, List.set_cons_succ])
                    refine wpAnyH_ready (rs := [6]) (by kernel_rfl) (by simp) ?_
                    refine AllReadyH.cons (o := ⟨some 69, _, _, _, _, _⟩) rfl (fun K hK => ?_) AllReadyH.nil
                    (have HI6 := hide (HI5.out.step (w2 := w5.alloc (.cells #[.int .i64 vk, .bool vb, .int .i64 vn, .string vs, .slice vA vnl vc, .slice vAK vnk vcK] 25))); have hy : [.int .i64 vk, .bool vb, .int .i64 vn, .string vs, .slice vA vnl vc, .slice vAK vnk vcK] = T.cells (.mk vk vb vn vs vA vc vl vAK vcK vks) := (by rw [T.cells, HVL.out.1, HVL.out.2]); have HY := hide hy; clear hy; refine step_append_slB rfl (.tmp 64) (.tmp 68) 22 rfl eiJ (base := bb + 3) (xs := l.map T.cells) rfl HI6.out.2.1 (tree_fit _) (ad := ⟨w5.heap.size, 0, none⟩) (c := 1) (y := [.int .i64 vk, .bool vb, .int .i64 vn, .string vs, .slice vA vnl vc, .slice vAK vnk vcK]) rfl (cells_at w5 [.int .i64 vk, .bool vb, .int .i64 vn, .string vs, .slice vA vnl vc, .slice vAK vnk vcK] 25) (by rw [HY.out]; exact tree_fit [_]) (by rw [List.length_map, HL.out]; omega) HI6.out.size (N := nl + 1) (by rw [List.length_map, HL.out]) ?_; intro A7 c7 w7 ho7 hg7 hb7 hA7; have HT6 := hide (TAt.grown (row := none) (World.grownBy_alloc w5 (.cells #[.int .i64 vk, .bool vb, .int .i64 vn, .string vs, .slice vA vnl vc, .slice vAK vnk vcK] 25) none) (fun q _ e => by cases e) HT5.out); have HI8 := hide (HI6.out.addL HT6.out hg7 (by rw [← HY.out]; exact ho7) hA7); have hb7_ := HI6.out.1.grown hg7 (by intro e; have := (HI6.out.2.1.lt _ e.symm).1; omega); clear ho7 hg7 hb7 hA7; clear c0 c1 c2 c3 c4 c5 lc fc; obtain ⟨c0, c1, c2, c3, c4, c5⟩ := At.z6 hb7_.at0; have lc := hb7_.lt; have fc := hb7_.free; clear hb7_)
                    refine hK.out _ _ (by (try dsimp only); (exact ⟨trivial, trivial⟩)) (fun hHeld => ?_)
                    clear hK K
                    (try simp only [Act.put, List.setIfInBounds_toArray, List.set_cons_zero, List.set_cons_succ])
                    refine wpAnyH_take (i := 7) (oi := ⟨some 70, _, _, _, _, _⟩) (v := ?_) rfl (by kernel_rfl) (by kernel_rfl) (by kernel_rfl) (fun _ _ _ h => h) (Or.inl ⟨by rfl, ?_⟩) (by assumption) ?_
                    rotate_left
                    · ((intro w hSw); (try dsimp only at hSw); go_simp; (try with_reducible rfl))
                    (try simp only [Act.put, List.setIfInBounds_toArray, List.set_cons_zero, List.set_cons_succ])
                    refine wpAnyH_ready (rs := [8]) (by kernel_rfl) (by simp) ?_
                    refine AllReadyH.cons (o := ⟨none, _, _, _, _, _⟩) rfl (fun K hK => ?_) AllReadyH.nil
                    go_simp
                    refine hK.out _ _ (by (try dsimp only); (exact ⟨trivial, trivial⟩)) (fun hHeld => ?_)
                    clear hK K
                    (try simp only [Act.put, List.setIfInBounds_toArray, List.set_cons_zero, List.set_cons_succ])
                    refine wpAnyH_done (by kernel_rfl) ?_ _
                    go_wp2_with (go_at_call 21; (with_reducible refine (WH.out i4 hi5 _ HI8.out.pr).mono ?_); rintro e w9 ⟨rfl, hp9, hm9⟩; have hwb := white_bd hi5; have HI9 := hide (HI8.out.mv hm9 hp9); clear hp9 hm9)
                    go_roundw
                    case rel => exact ⟨f, whiteE s i4, false, l ++ [(.mk vk vb vn vs vA vc vl vAK vcK vks)], A7, c7, nl + 1, ks ++ [q], A5, c5_, nk + 1, by omega, hwb.2, by omega, rfl, by show _ = _; rw [List.length_append, HL.out]; rfl, by omega, by show _ = _; rw [List.length_append, HKL.out]; rfl, by omega, by show _ = _; rw [js_app, T.js, T.js, HVJ.out]; exact HTJ.out, HI9.out⟩
                    case measure =>
                      rw [Pr.pos HI9.out.pr, Pr.pos HI.out.pr]
                      omega
            · have HRE : Hid (r = .error 300) := by show _ = _; rw [HRR.out, ← HTS3.out, if_pos hco]; rfl
              have TK2 := fun w' (hp : Pr w' g s i2) => jtake_no g s i2 58 w' hp hw2.2 (.inr hco) hs
              rw [show ((58 : Nat) : Int) = 58 from rfl] at TK2
              have TK2 := hide TK2
              clear hco HTS3
              go_wp2_with (first | (go_at_call 34; (with_reducible refine (TXX.out _ HIY.out.pr).mono ?_); rintro e w3 ⟨⟨rfl, hp3, hj3⟩, hm3⟩; have HI3 := hide (HIY.out.mv hm3 hp3); have hlk : (Instr.lookup 84 (.map (some (bb + 1 + 1))) (.string q) false).run Tryd.prog w3 = .ok (.bool false) w3 := (by have h_ := HI3.out.seen.look q hqs; rw [HCT.out] at h_; exact h_); clear hp3 hm3; clear c0 c1 c2 c3 c4 c5 lc fc) | (at_mapUpdate; refine wpList_seen rfl (.tmp 49) (.tmp 50) (.const (.bool true)) rfl (m := bb + 2) (n := nk) (ks := ks) (k := q) rfl rfl rfl HI3.out.seen hqs (by simp only [maxLen]; omega) ?_; intro w4 hs4 hg4; have HI4 := hide (HI3.out.see hg4 hs4); clear hs4 hg4 hlk; obtain ⟨c0, c1, c2, c3, c4, c5⟩ := At.z6 HI4.out.1.at0; have lc := HI4.out.1.lt; have fc := HI4.out.1.free) | (at_builtin; have HI5 := hide (HI4.out.step (w2 := w4.alloc (.cells #[.string q] 9))); refine wpList_append_slB rfl (.tmp 52) (.tmp 54) 23 rfl eiK (base := bb + 3) (xs := strCells ks) rfl HI5.out.2.2.1 (keys_fit _) (ad := ⟨w4.heap.size, 0, none⟩) (c := 1) (y := [.string q]) rfl (cells_at w4 [.string q] 9) (keys_fit [q]) (by rw [strCells, List.length_map, HKL.out]; omega) HI5.out.size (N := nk + 1) (by rw [strCells, List.length_map, HKL.out]) ?_; intro A5 c5_ w5 ho5 hg5 hb5 hA5; have HI6 := hide (HI5.out.addK hg5 ho5 hA5); have hb5_ := HI5.out.1.grown hg5 (by intro e; have := (HI5.out.2.2.1.lt _ e.symm).1; omega); clear ho5 hg5 hb5 hA5; clear c0 c1 c2 c3 c4 c5 lc fc; obtain ⟨c0, c1, c2, c3, c4, c5⟩ := At.z6 hb5_.at0; have lc := hb5_.lt; have fc := hb5_.free; clear hb5_) | (go_at_call 21; (with_reducible refine (WH.out i1 hi1s _ HI6.out.pr).mono ?_); rintro e w7 ⟨rfl, hp7, hm7⟩; rw [HW1.out] at hp7; have HI7 := hide (HI6.out.mv hm7 hp7); clear hp7 hm7; clear c0 c1 c2 c3 c4 c5 lc fc) | (go_at_call 52; (with_reducible refine (TK2.out _ HI7.out.pr).mono ?_); rintro e w8 ⟨rfl, hs8⟩))
              exact ⟨rfl, by rw [HRE.out]; rfl, HI7.out.mvd.fut⟩
      | false =>
        by_cases hq : bA s k = 44
        · have hkk : k < s.size := bA_lt (by omega)
          have hk1' : k + 1 ≤ s.size := by omega
          have TK := hide (fun w' (hp : Pr w' g s k) => jtake_yes g s k 44 w' hp hkk (by rw [← bA_at hkk, hq]; rfl) hs)
          have HTS : Hid ((match textP s (whiteE s (k + 1)) with | none => .error 300 | some (q, i1) => if ks.contains q then .error 300 else if bA s (whiteE s i1) ≠ 58 then .error 300 else (match val (whiteE s (whiteE s i1 + 1)) with | .error e => .error e | .ok (j, i4) => elemsP val s true f (whiteE s i4) false (T.js l ++ [j]) (ks ++ [q]))) = R) := by show _ = _; rw [← HTX.out, el_obj he (by simp [hq])]; rfl
          obtain ⟨hkk0, hk0⟩ := white_bd hk1'
          obtain ⟨k0, hk0e⟩ : ∃ k0, whiteE s (k + 1) = k0 := ⟨_, rfl⟩
          rw [hk0e] at HTS hkk0 hk0
          have HKW := hide hk0e
          rw [hq] at NK
          have NK := hide NK
          clear he hk0e HTX hnc hq
          go_upto_region 15 with (first | (go_at_call 32; (with_reducible refine (NK.out _ HI.out.pr).mono ?_); rintro e w6 ⟨rfl, hs6⟩; have HI6 := hide (HI.out.step (w2 := w6))) | (go_at_call 52; (with_reducible refine (TK.out _ HI6.out.pr).mono ?_); rintro e w7 ⟨rfl, hp7, hm7⟩; have HI7 := hide (HI6.out.mv hm7 hp7); clear hp7 hm7) | (go_at_call 21; (with_reducible refine (WH.out (k + 1) hk1' _ HI7.out.pr).mono ?_); rintro e wy ⟨rfl, hp8, hm8⟩; rw [HKW.out] at hp8; have HIY := hide (HI7.out.mv hm8 hp8); clear hp8 hm8))
          cases htx : textP s k0 with
          | none =>
            have HRE : Hid (r = .error 300) := by show _ = _; rw [HRR.out, ← HTS.out, htx]; rfl
            have TXX : Hid (∀ w', Pr w' g s k0 → Calls Tryd.prog 34 #[.pointer (some ⟨g, 0, none⟩)] w' fun e w'' => e = .panicked [{ v := fault 300, recovered := false }] ∧ Mv g w' w'') := fun w' hp => jtext_any g s k0 none w' hp hk0 htx hs
            clear htx HTS
            obtain ⟨c0, c1, c2, c3, c4, c5⟩ := At.z6 HIY.out.1.at0; have lc := HIY.out.1.lt; have fc := HIY.out.1.free
            go_wp2_with (go_at_call 34; (with_reducible refine (TXX.out _ HIY.out.pr).mono ?_); rintro e w3 ⟨rfl, hm3⟩)
            exact ⟨rfl, by rw [HRE.out]; rfl, grown_trans HIY.out.mvd hm3⟩
          | some qi =>
            obtain ⟨q, i1⟩ := qi
            have hi1g := text_gt htx
            obtain ⟨hi1s, hq4⟩ := text_le htx
            have hqs : q.size ≤ maxLen := by simp only [maxLen]; omega
            have TXX : Hid (∀ w', Pr w' g s k0 → Calls Tryd.prog 34 #[.pointer (some ⟨g, 0, none⟩)] w' fun e w'' => (e = .returned (.string q) ∧ Pr w'' g s i1 ∧ i1 ≤ s.size) ∧ Mv g w' w'') := fun w' hp => jtext_any g s k0 (some (q, i1)) w' hp hk0 htx hs
            have HTS2 : Hid ((if ks.contains q then .error 300 else if bA s (whiteE s i1) ≠ 58 then .error 300 else (match val (whiteE s (whiteE s i1 + 1)) with | .error e => .error e | .ok (j, i4) => elemsP val s true f (whiteE s i4) false (T.js l ++ [j]) (ks ++ [q]))) = R) := by have h_ := HTS.out; rw [htx] at h_; exact h_
            clear htx HTS
            obtain ⟨c0, c1, c2, c3, c4, c5⟩ := At.z6 HIY.out.1.at0; have lc := HIY.out.1.lt; have fc := HIY.out.1.free
            cases hct : ks.contains q with
            | true =>
              have HRE : Hid (r = .error 300) := by show _ = _; rw [HRR.out, ← HTS2.out, if_pos hct]; rfl
              have HCT := hide hct
              clear hct HTS2
              go_wp2_with (first | (go_at_call 34; (with_reducible refine (TXX.out _ HIY.out.pr).mono ?_); rintro e w3 ⟨⟨rfl, hp3, hj3⟩, hm3⟩; have HI3 := hide (HIY.out.mv hm3 hp3); have hlk : (Instr.lookup 84 (.map (some (bb + 1 + 1))) (.string q) false).run Tryd.prog w3 = .ok (.bool true) w3 := (by have h_ := HI3.out.seen.look q hqs; rw [HCT.out] at h_; exact h_); clear hp3 hm3; clear c0 c1 c2 c3 c4 c5 lc fc) | (go_at_call 23; (with_reducible refine (bad_any _).mono ?_); rintro e w9 ⟨rfl, rfl⟩))
              exact ⟨rfl, by rw [HRE.out]; rfl, HI3.out.mvd.fut⟩
            | false =>
              have HCT := hide hct
              have HTS3 : Hid ((if bA s (whiteE s i1) ≠ 58 then .error 300 else (match val (whiteE s (whiteE s i1 + 1)) with | .error e => .error e | .ok (j, i4) => elemsP val s true f (whiteE s i4) false (T.js l ++ [j]) (ks ++ [q]))) = R) := by have h_ := HTS2.out; rw [if_neg (by rw [hct]; simp)] at h_; exact h_
              clear hct HTS2
              have hw2 := white_bd hi1s
              obtain ⟨i2, hi2⟩ : ∃ i2, whiteE s i1 = i2 := ⟨_, rfl⟩
              have HW1 := hide hi2
              rw [hi2] at HTS3 hw2
              clear hi2
              by_cases hco : bA s i2 = 58
              · have hi2l : i2 < s.size := bA_lt (by omega)
                have hi2s : i2 + 1 ≤ s.size := by omega
                have TK2 := hide (fun w' (hp : Pr w' g s i2) => jtake_yes g s i2 58 w' hp hi2l (by rw [← bA_at hi2l, hco]; rfl) hs)
                have HTS : Hid ((match val (whiteE s (i2 + 1)) with | .error e => .error e | .ok (j, i4) => elemsP val s true f (whiteE s i4) false (T.js l ++ [j]) (ks ++ [q])) = R) := by have h_ := HTS3.out; rw [if_neg (by simp [hco])] at h_; exact h_
                have hw3 := white_bd hi2s
                obtain ⟨i3, hi3⟩ : ∃ i3, whiteE s (i2 + 1) = i3 := ⟨_, rfl⟩
                have HW2 := hide hi3
                rw [hi3] at HTS hw3
                clear hi3 HTS3 hco
                have hk0 : i3 ≤ s.size := hw3.2
                have hkk0 : k ≤ i3 := by omega
                go_upto_region 24 with (first | (go_at_call 34; (with_reducible refine (TXX.out _ HIY.out.pr).mono ?_); rintro e w3 ⟨⟨rfl, hp3, hj3⟩, hm3⟩; have HI3 := hide (HIY.out.mv hm3 hp3); have hlk : (Instr.lookup 84 (.map (some (bb + 1 + 1))) (.string q) false).run Tryd.prog w3 = .ok (.bool false) w3 := (by have h_ := HI3.out.seen.look q hqs; rw [HCT.out] at h_; exact h_); clear hp3 hm3; clear c0 c1 c2 c3 c4 c5 lc fc) | (at_mapUpdate; refine wpList_seen rfl (.tmp 49) (.tmp 50) (.const (.bool true)) rfl (m := bb + 2) (n := nk) (ks := ks) (k := q) rfl rfl rfl HI3.out.seen hqs (by simp only [maxLen]; omega) ?_; intro w4 hs4 hg4; have HI4 := hide (HI3.out.see hg4 hs4); clear hs4 hg4 hlk; obtain ⟨c0, c1, c2, c3, c4, c5⟩ := At.z6 HI4.out.1.at0; have lc := HI4.out.1.lt; have fc := HI4.out.1.free) | (at_builtin; have HI5 := hide (HI4.out.step (w2 := w4.alloc (.cells #[.string q] 9))); refine wpList_append_slB rfl (.tmp 52) (.tmp 54) 23 rfl eiK (base := bb + 3) (xs := strCells ks) rfl HI5.out.2.2.1 (keys_fit _) (ad := ⟨w4.heap.size, 0, none⟩) (c := 1) (y := [.string q]) rfl (cells_at w4 [.string q] 9) (keys_fit [q]) (by rw [strCells, List.length_map, HKL.out]; omega) HI5.out.size (N := nk + 1) (by rw [strCells, List.length_map, HKL.out]) ?_; intro A5 c5_ w5 ho5 hg5 hb5 hA5; have HI6 := hide (HI5.out.addK hg5 ho5 hA5); have hb5_ := HI5.out.1.grown hg5 (by intro e; have := (HI5.out.2.2.1.lt _ e.symm).1; omega); clear ho5 hg5 hb5 hA5; clear c0 c1 c2 c3 c4 c5 lc fc; obtain ⟨c0, c1, c2, c3, c4, c5⟩ := At.z6 hb5_.at0; have lc := hb5_.lt; have fc := hb5_.free; clear hb5_) | (go_at_call 21; (with_reducible refine (WH.out i1 hi1s _ HI6.out.pr).mono ?_); rintro e w7 ⟨rfl, hp7, hm7⟩; rw [HW1.out] at hp7; have HI7 := hide (HI6.out.mv hm7 hp7); clear hp7 hm7; clear c0 c1 c2 c3 c4 c5 lc fc) | (go_at_call 52; (with_reducible refine (TK2.out _ HI7.out.pr).mono ?_); rintro e w8 ⟨rfl, hp8, hm8⟩; have HI8 := hide (HI7.out.mv hm8 hp8); clear hp8 hm8) | (go_at_call 21; (with_reducible refine (WH.out (i2 + 1) hi2s _ HI8.out.pr).mono ?_); rintro e w9 ⟨rfl, hp9, hm9⟩; rw [HW2.out] at hp9; clear HIY; have HIY := hide (HI8.out.mv hm9 hp9); clear hp9 hm9))
                have HVK := HVV.out i3
                cases hvv : val i3 with
                | error ec =>
                  have HRE : Hid (r = .error ec) := by show _ = _; rw [HRR.out, ← HTS.out, hvv]; rfl
                  have HVE : Hid (∀ w', Pr w' g s i3 → Calls Tryd.prog 22 #[.pointer (some ⟨g, 0, none⟩), .int .i64 dp] w' fun e w'' => e = .panicked [{ v := fault ec, recovered := false }] ∧ Mv g w' w'') := fun w' hp => by have h_ := HVK w' hp hk0; rw [hvv] at h_; exact h_
                  clear hvv HTS HVK
                  obtain ⟨c0, c1, c2, c3, c4, c5⟩ := At.z6 HIY.out.1.at0; have lc := HIY.out.1.lt; have fc := HIY.out.1.free
                  refine wp_region_held_drew (S := (fun _ => True ∧ True)) (by kernel_rfl) (by (try dsimp only); (exact ⟨trivial, trivial⟩)) (fun hHeld => ?_)
                  refine wpAnyH_take (i := 0) (oi := ⟨some 63, _, _, _, _, _⟩) (v := ?_) rfl (by kernel_rfl) (by kernel_rfl) (by kernel_rfl) (fun _ _ _ h => h) (Or.inl ⟨by rfl, ?_⟩) (by assumption) ?_
                  rotate_left
                  · ((intro w hSw); (try dsimp only at hSw); go_simp; (try with_reducible rfl))
                  (try simp only [Act.put, List.setIfInBounds_toArray, List.set_cons_zero, List.set_cons_succ])
                  refine wpAnyH_take (i := 2) (oi := ⟨some 65, _, _, _, _, _⟩) (v := ?_) rfl (by kernel_rfl) (by kernel_rfl) (by kernel_rfl) (fun _ _ _ h => h) (Or.inl ⟨by rfl, ?_⟩) (by assumption) ?_
                  rotate_left
                  · ((intro w hSw); (try dsimp only at hSw); go_simp; (try with_reducible rfl))
                  (try simp only [Act.put, List.setIfInBounds_toArray, List.set_cons_zero, List.set_cons_succ])
                  refine wpAnyH_take (i := 3) (oi := ⟨some 66, _, _, _, _, _⟩) (v := ?_) rfl (by kernel_rfl) (by kernel_rfl) (by kernel_rfl) (fun _ _ _ h => h) (Or.inl ⟨by rfl, ?_⟩) (by assumption) ?_
                  rotate_left
                  · ((intro w hSw); (try dsimp only at hSw); go_simp; (try with_reducible rfl))
                  (try simp only [Act.put, List.setIfInBounds_toArray, List.set_cons_zero, List.set_cons_succ])
                  refine wpAnyH_ready (rs := [1, 4]) (by kernel_rfl) (by simp) ?_
                  refine AllReadyH.cons (o := ⟨some 64, _, _, _, _, _⟩) rfl (fun K hK => ?_) (AllReadyH.cons (o := ⟨some 67, _, _, _, _, _⟩) rfl (fun K hK => ?_) AllReadyH.nil)
                  · go_simp
                    refine hK.out _ _ (by (try dsimp only); (exact ⟨trivial, trivial⟩)) (fun hHeld => ?_)
                    clear hK K
                    (try simp only [Act.put, List.setIfInBounds_toArray, List.set_cons_zero, List.set_cons_succ])
                    refine wpAnyH_ready (rs := [4]) (by kernel_rfl) (by simp) ?_
                    refine AllReadyH.cons (o := ⟨some 67, _, _, _, _, _⟩) rfl (fun K hK => ?_) AllReadyH.nil
                    obtain ⟨hS1, hS2⟩ := hHeld
                    go_simp
                    (go_at_call 22; (with_reducible refine (HVE.out _ (HIY.out.pr.fut)).mono ?_); rintro e w5 ⟨rfl, hm5⟩; exact ⟨rfl, by rw [HRE.out]; rfl, grown_trans HIY.out.mvd.fut hm5⟩)
                  · obtain ⟨hS1, hS2⟩ := hHeld
                    go_simp
                    (go_at_call 22; (with_reducible refine (HVE.out _ (HIY.out.pr.fut)).mono ?_); rintro e w5 ⟨rfl, hm5⟩; exact ⟨rfl, by rw [HRE.out]; rfl, grown_trans HIY.out.mvd.fut hm5⟩)
                | ok ji =>
                  obtain ⟨j, i4⟩ := ji
                  have HTJ : Hid (elemsP val s true f (whiteE s i4) false (T.js l ++ [j]) (ks ++ [q]) = R) := by have := HTS.out; rw [hvv] at this; exact this
                  have hgt := HVG.out _ _ _ hvv
                  have HVE : Hid (∀ w', Pr w' g s i3 → Calls Tryd.prog 22 #[.pointer (some ⟨g, 0, none⟩), .int .i64 dp] w' fun e w'' => (∃ (vk : Int) (vb : Bool) (vn : Int) (vs : ByteArray) (vA : Option Addr) (vc vnl : Nat) (vl : List T) (vAK : Option Addr) (vcK vnk : Nat) (vks : List ByteArray), e = .returned (.agg #[.int .i64 vk, .bool vb, .int .i64 vn, .string vs, .slice vA vnl vc, .slice vAK vnk vcK]) ∧ Hid (vl.length = vnl ∧ vks.length = vnk) ∧ Hid (T.j (.mk vk vb vn vs vA vc vl vAK vcK vks) = j) ∧ TAt w'' (fun q => w'.heap.size ≤ q) (.mk vk vb vn vs vA vc vl vAK vcK vks) ∧ Pr w'' g s i4 ∧ i4 ≤ s.size) ∧ Mv g w' w'') := fun w' hp => by
                    have h_ := HVK w' hp hk0
                    rw [hvv] at h_
                    exact h_.mono fun e w'' hh => by
                      obtain ⟨⟨t, h1, h2, h3, h4, h5⟩, h6⟩ := hh
                      cases t with
                      | mk vk vb vn vs vA vc vl vAK vcK vks => exact ⟨⟨vk, vb, vn, vs, vA, vc, _, vl, vAK, vcK, _, vks, h1, ⟨rfl, rfl⟩, h2, h3, h4, h5⟩, h6⟩
                  clear hvv HTS HVK
                  obtain ⟨c0, c1, c2, c3, c4, c5⟩ := At.z6 HIY.out.1.at0; have lc := HIY.out.1.lt; have fc := HIY.out.1.free
                  refine wp_region_held_drew (S := (fun _ => True ∧ True)) (by kernel_rfl) (by (try dsimp only); (exact ⟨trivial, trivial⟩)) (fun hHeld => ?_)
                  refine wpAnyH_take (i := 0) (oi := ⟨some 63, _, _, _, _, _⟩) (v := ?_) rfl (by kernel_rfl) (by kernel_rfl) (by kernel_rfl) (fun _ _ _ h => h) (Or.inl ⟨by rfl, ?_⟩) (by assumption) ?_
                  rotate_left
                  · ((intro w hSw); (try dsimp only at hSw); go_simp; (try with_reducible rfl))
                  (try simp only [Act.put, List.setIfInBounds_toArray, List.set_cons_zero, List.set_cons_succ])
                  refine wpAnyH_take (i := 2) (oi := ⟨some 65, _, _, _, _, _⟩) (v := ?_) rfl (by kernel_rfl) (by kernel_rfl) (by kernel_rfl) (fun _ _ _ h => h) (Or.inl ⟨by rfl, ?_⟩) (by assumption) ?_
                  rotate_left
                  · ((intro w hSw); (try dsimp only at hSw); go_simp; (try with_reducible rfl))
                  (try simp only [Act.put, List.setIfInBounds_toArray, List.set_cons_zero, List.set_cons_succ])
                  refine wpAnyH_take (i := 3) (oi := ⟨some 66, _, _, _, _, _⟩) (v := ?_) rfl (by kernel_rfl) (by kernel_rfl) (by kernel_rfl) (fun _ _ _ h => h) (Or.inl ⟨by rfl, ?_⟩) (by assumption) ?_
                  rotate_left
                  · ((intro w hSw); (try dsimp only at hSw); go_simp; (try with_reducible rfl))
                  (try simp only [Act.put, List.setIfInBounds_toArray, List.set_cons_zero, List.set_cons_succ])
                  refine wpAnyH_ready (rs := [1, 4]) (by kernel_rfl) (by simp) ?_
                  refine AllReadyH.cons (o := ⟨some 64, _, _, _, _, _⟩) rfl (fun K hK => ?_) (AllReadyH.cons (o := ⟨some 67, _, _, _, _, _⟩) rfl (fun K hK => ?_) AllReadyH.nil)
                  · go_simp
                    refine hK.out _ _ (by (try dsimp only); (exact ⟨trivial, trivial⟩)) (fun hHeld => ?_)
                    clear hK K
                    (try simp only [Act.put, List.setIfInBounds_toArray, List.set_cons_zero, List.set_cons_succ])
                    refine wpAnyH_ready (rs := [4]) (by kernel_rfl) (by simp) ?_
                    refine AllReadyH.cons (o := ⟨some 67, _, _, _, _, _⟩) rfl (fun K hK => ?_) AllReadyH.nil
                    obtain ⟨hS1, hS2⟩ := hHeld
                    go_simp
                    (go_at_call 22; (with_reducible refine (HVE.out _ (HIY.out.pr.fut)).mono ?_); rintro e w5 ⟨⟨vk, vb, vn, vs, vA, vc, vnl, vl, vAK, vcK, vnk, vks, rfl, HVL, HVJ, ht5, hp5, hi5⟩, hm5⟩; obtain ⟨hI5, hT5⟩ := HIY.out.val hm5 hp5 ht5; have HI5 := hide hI5; have HT5 := hide hT5; clear hI5 hT5 ht5 hp5 hm5; clear c0 c1 c2 c3 c4 c5 lc fc; obtain ⟨c0, c1, c2, c3, c4, c5⟩ := At.z6 HI5.out.1.at0; have lc := HI5.out.1.lt; have fc := HI5.out.1.free)
                    refine hK.out _ _ (by (try dsimp only); (exact ⟨trivial, trivial⟩)) (fun hHeld => ?_)
                    clear hK K
                    (try simp only [Act.put, List.setIfInBounds_toArray, List.set_cons_zero, List.set_cons_succ])
                    refine wpAnyH_ready (rs := [5]) (by kernel_rfl) (by simp) ?_
                    refine AllReadyH.cons (o := ⟨some 68, _, _, _, _, _⟩) rfl (fun K hK => ?_) AllReadyH.nil
                    go_simp
                    refine hK.out _ _ (by (try dsimp only); (exact ⟨trivial, trivial⟩)) (fun hHeld => ?_)
                    clear hK K
                    (try simp only [Act.put, List.setIfInBounds_toArray, List.set_cons_zero, List.set_cons_succ])
                    refine wpAnyH_ready (rs := [6]) (by kernel_rfl) (by simp) ?_
                    refine AllReadyH.cons (o := ⟨some 69, _, _, _, _, _⟩) rfl (fun K hK => ?_) AllReadyH.nil
                    (have HI6 := hide (HI5.out.step (w2 := w5.alloc (.cells #[.int .i64 vk, .bool vb, .int .i64 vn, .string vs, .slice vA vnl vc, .slice vAK vnk vcK] 25))); have hy : [.int .i64 vk, .bool vb, .int .i64 vn, .string vs, .slice vA vnl vc, .slice vAK vnk vcK] = T.cells (.mk vk vb vn vs vA vc vl vAK vcK vks) := (by rw [T.cells, HVL.out.1, HVL.out.2]); have HY := hide hy; clear hy; refine step_append_slB rfl (.tmp 64) (.tmp 68) 22 rfl eiJ (base := bb + 3) (xs := l.map T.cells) rfl HI6.out.2.1 (tree_fit _) (ad := ⟨w5.heap.size, 0, none⟩) (c := 1) (y := [.int .i64 vk, .bool vb, .int .i64 vn, .string vs, .slice vA vnl vc, .slice vAK vnk vcK]) rfl (cells_at w5 [.int .i64 vk, .bool vb, .int .i64 vn, .string vs, .slice vA vnl vc, .slice vAK vnk vcK] 25) (by rw [HY.out]; exact tree_fit [_]) (by rw [List.length_map, HL.out]; omega) HI6.out.size (N := nl + 1) (by rw [List.length_map, HL.out]) ?_; intro A7 c7 w7 ho7 hg7 hb7 hA7; have HT6 := hide (TAt.grown (row := none) (World.grownBy_alloc w5 (.cells #[.int .i64 vk, .bool vb, .int .i64 vn, .string vs, .slice vA vnl vc, .slice vAK vnk vcK] 25) none) (fun q _ e => by cases e) HT5.out); have HI8 := hide (HI6.out.addL HT6.out hg7 (by rw [← HY.out]; exact ho7) hA7); have hb7_ := HI6.out.1.grown hg7 (by intro e; have := (HI6.out.2.1.lt _ e.symm).1; omega); clear ho7 hg7 hb7 hA7; clear c0 c1 c2 c3 c4 c5 lc fc; obtain ⟨c0, c1, c2, c3, c4, c5⟩ := At.z6 hb7_.at0; have lc := hb7_.lt; have fc := hb7_.free; clear hb7_)
                    refine hK.out _ _ (by (try dsimp only); (exact ⟨trivial, trivial⟩)) (fun hHeld => ?_)
                    clear hK K
                    (try simp only [Act.put, List.setIfInBounds_toArray, List.set_cons_zero, List.set_cons_succ])
                    refine wpAnyH_take (i := 7) (oi := ⟨some 70, _, _, _, _, _⟩) (v := ?_) rfl (by kernel_rfl) (by kernel_rfl) (by kernel_rfl) (fun _ _ _ h => h) (Or.inl ⟨by rfl, ?_⟩) (by assumption) ?_
                    rotate_left
                    · ((intro w hSw); (try dsimp only at hSw); go_simp; (try with_reducible rfl))
                    (try simp only [Act.put, List.setIfInBounds_toArray, List.set_cons_zero, List.set_cons_succ])
                    refine wpAnyH_ready (rs := [8]) (by kernel_rfl) (by simp) ?_
                    refine AllReadyH.cons (o := ⟨none, _, _, _, _, _⟩) rfl (fun K hK => ?_) AllReadyH.nil
                    go_simp
                    refine hK.out _ _ (by (try dsimp only); (exact ⟨trivial, trivial⟩)) (fun hHeld => ?_)
                    clear hK K
                    (try simp only [Act.put, List.setIfInBounds_toArray, List.set_cons_zero, List.set_cons_succ])
                    refine wpAnyH_done (by kernel_rfl) ?_ _
                    go_wp2_with (go_at_call 21; (with_reducible refine (WH.out i4 hi5 _ HI8.out.pr).mono ?_); rintro e w9 ⟨rfl, hp9, hm9⟩; have hwb := white_bd hi5; have HI9 := hide (HI8.out.mv hm9 hp9); clear hp9 hm9)
                    go_roundw
                    case rel => exact ⟨f, whiteE s i4, false, l ++ [(.mk vk vb vn vs vA vc vl vAK vcK vks)], A7, c7, nl + 1, ks ++ [q], A5, c5_, nk + 1, by omega, hwb.2, by omega, rfl, by show _ = _; rw [List.length_append, HL.out]; rfl, by omega, by show _ = _; rw [List.length_append, HKL.out]; rfl, by omega, by show _ = _; rw [js_app, T.js, T.js, HVJ.out]; exact HTJ.out, HI9.out⟩
                    case measure =>
                      rw [Pr.pos HI9.out.pr, Pr.pos HI.out.pr]
                      omega
                  · obtain ⟨hS1, hS2⟩ := hHeld
                    go_simp
                    (go_at_call 22; (with_reducible refine (HVE.out _ (HIY.out.pr.fut)).mono ?_); rintro e w5 ⟨⟨vk, vb, vn, vs, vA, vc, vnl, vl, vAK, vcK, vnk, vks, rfl, HVL, HVJ, ht5, hp5, hi5⟩, hm5⟩; obtain ⟨hI5, hT5⟩ := HIY.out.val hm5 hp5 ht5; have HI5 := hide hI5; have HT5 := hide hT5; clear hI5 hT5 ht5 hp5 hm5; clear c0 c1 c2 c3 c4 c5 lc fc; obtain ⟨c0, c1, c2, c3, c4, c5⟩ := At.z6 HI5.out.1.at0; have lc := HI5.out.1.lt; have fc := HI5.out.1.free)
                    refine hK.out _ _ (by (try dsimp only); (exact ⟨trivial, trivial⟩)) (fun hHeld => ?_)
                    clear hK K
                    (try simp only [Act.put, List.setIfInBounds_toArray, List.set_cons_zero, List.set_cons_succ])
                    refine wpAnyH_ready (rs := [1, 5]) (by kernel_rfl) (by simp) ?_
                    refine AllReadyH.cons (o := ⟨some 64, _, _, _, _, _⟩) rfl (fun K hK => ?_) (AllReadyH.cons (o := ⟨some 68, _, _, _, _, _⟩) rfl (fun K hK => ?_) AllReadyH.nil)
                    · go_simp
                      refine hK.out _ _ (by (try dsimp only); (exact ⟨trivial, trivial⟩)) (fun hHeld => ?_)
                      clear hK K
                      (try simp only [Act.put, List.setIfInBounds_toArray, List.set_cons_zero, List.set_cons_succ])
                      refine wpAnyH_ready (rs := [5]) (by kernel_rfl) (by simp) ?_
                      refine AllReadyH.cons (o := ⟨some 68, _, _, _, _, _⟩) rfl (fun K hK => ?_) AllReadyH.nil
                      go_simp
                      refine hK.out _ _ (by (try dsimp only); (exact ⟨trivial, trivial⟩)) (fun hHeld => ?_)
                      clear hK K
                      (try simp only [Act.put, List.setIfInBounds_toArray, List.set_cons_zero, List.set_cons_succ])
                      refine wpAnyH_ready (rs := [6]) (by kernel_rfl) (by simp) ?_
                      refine AllReadyH.cons (o := ⟨some 69, _, _, _, _, _⟩) rfl (fun K hK => ?_) AllReadyH.nil
                      (have HI6 := hide (HI5.out.step (w2 := w5.alloc (.cells #[.int .i64 vk, .bool vb, .int .i64 vn, .string vs, .slice vA vnl vc, .slice vAK vnk vcK] 25))); have hy : [.int .i64 vk, .bool vb, .int .i64 vn, .string vs, .slice vA vnl vc, .slice vAK vnk vcK] = T.cells (.mk vk vb vn vs vA vc vl vAK vcK vks) := (by rw [T.cells, HVL.out.1, HVL.out.2]); have HY := hide hy; clear hy; refine step_append_slB rfl (.tmp 64) (.tmp 68) 22 rfl eiJ (base := bb + 3) (xs := l.map T.cells) rfl HI6.out.2.1 (tree_fit _) (ad := ⟨w5.heap.size, 0, none⟩) (c := 1) (y := [.int .i64 vk, .bool vb, .int .i64 vn, .string vs, .slice vA vnl vc, .slice vAK vnk vcK]) rfl (cells_at w5 [.int .i64 vk, .bool vb, .int .i64 vn, .string vs, .slice vA vnl vc, .slice vAK vnk vcK] 25) (by rw [HY.out]; exact tree_fit [_]) (by rw [List.length_map, HL.out]; omega) HI6.out.size (N := nl + 1) (by rw [List.length_map, HL.out]) ?_; intro A7 c7 w7 ho7 hg7 hb7 hA7; have HT6 := hide (TAt.grown (row := none) (World.grownBy_alloc w5 (.cells #[.int .i64 vk, .bool vb, .int .i64 vn, .string vs, .slice vA vnl vc, .slice vAK vnk vcK] 25) none) (fun q _ e => by cases e) HT5.out); have HI8 := hide (HI6.out.addL HT6.out hg7 (by rw [← HY.out]; exact ho7) hA7); have hb7_ := HI6.out.1.grown hg7 (by intro e; have := (HI6.out.2.1.lt _ e.symm).1; omega); clear ho7 hg7 hb7 hA7; clear c0 c1 c2 c3 c4 c5 lc fc; obtain ⟨c0, c1, c2, c3, c4, c5⟩ := At.z6 hb7_.at0; have lc := hb7_.lt; have fc := hb7_.free; clear hb7_)
                      refine hK.out _ _ (by (try dsimp only); (exact ⟨trivial, trivial⟩)) (fun hHeld => ?_)
                      clear hK K
                      (try simp only [Act.put, List.setIfInBounds_toArray, List.set_cons_zero, List.set_cons_succ])
                      refine wpAnyH_take (i := 7) (oi := ⟨some 70, _, _, _, _, _⟩) (v := ?_) rfl (by kernel_rfl) (by kernel_rfl) (by kernel_rfl) (fun _ _ _ h => h) (Or.inl ⟨by rfl, ?_⟩) (by assumption) ?_
                      rotate_left
                      · ((intro w hSw); (try dsimp only at hSw); go_simp; (try with_reducible rfl))
                      (try simp only [Act.put, List.setIfInBounds_toArray, List.set_cons_zero, List.set_cons_succ])
                      refine wpAnyH_ready (rs := [8]) (by kernel_rfl) (by simp) ?_
                      refine AllReadyH.cons (o := ⟨none, _, _, _, _, _⟩) rfl (fun K hK => ?_) AllReadyH.nil
                      go_simp
                      refine hK.out _ _ (by (try dsimp only); (exact ⟨trivial, trivial⟩)) (fun hHeld => ?_)
                      clear hK K
                      (try simp only [Act.put, List.setIfInBounds_toArray, List.set_cons_zero, List.set_cons_succ])
                      refine wpAnyH_done (by kernel_rfl) ?_ _
                      go_wp2_with (go_at_call 21; (with_reducible refine (WH.out i4 hi5 _ HI8.out.pr).mono ?_); rintro e w9 ⟨rfl, hp9, hm9⟩; have hwb := white_bd hi5; have HI9 := hide (HI8.out.mv hm9 hp9); clear hp9 hm9)
                      go_roundw
                      case rel => exact ⟨f, whiteE s i4, false, l ++ [(.mk vk vb vn vs vA vc vl vAK vcK vks)], A7, c7, nl + 1, ks ++ [q], A5, c5_, nk + 1, by omega, hwb.2, by omega, rfl, by show _ = _; rw [List.length_append, HL.out]; rfl, by omega, by show _ = _; rw [List.length_append, HKL.out]; rfl, by omega, by show _ = _; rw [js_app, T.js, T.js, HVJ.out]; exact HTJ.out, HI9.out⟩
                      case measure =>
                        rw [Pr.pos HI9.out.pr, Pr.pos HI.out.pr]
                        omega
                    · go_simp
                      refine hK.out _ _ (by (try dsimp only); (exact ⟨trivial, trivial⟩)) (fun hHeld => ?_)
                      clear hK K
                      (try simp only [Act.put, List.setIfInBounds_toArray, List.set_cons_zero, List.set_cons_succ])
                      refine wpAnyH_ready (rs := [1]) (by kernel_rfl) (by simp) ?_
                      refine AllReadyH.cons (o := ⟨some 64, _, _, _, _, _⟩) rfl (fun K hK => ?_) AllReadyH.nil
                      go_simp
                      refine hK.out _ _ (by (try dsimp only); (exact ⟨trivial, trivial⟩)) (fun hHeld => ?_)
                      clear hK K
                      (try simp only [Act.put, List.setIfInBounds_toArray, List.set_cons_zero, List.set_cons_succ])
                      refine wpAnyH_ready (rs := [6]) (by kernel_rfl) (by simp) ?_
                      refine AllReadyH.cons (o := ⟨some 69, _, _, _, _, _⟩) rfl (fun K hK => ?_) AllReadyH.nil
                      (have HI6 := hide (HI5.out.step (w2 := w5.alloc (.cells #[.int .i64 vk, .bool vb, .int .i64 vn, .string vs, .slice vA vnl vc, .slice vAK vnk vcK] 25))); have hy : [.int .i64 vk, .bool vb, .int .i64 vn, .string vs, .slice vA vnl vc, .slice vAK vnk vcK] = T.cells (.mk vk vb vn vs vA vc vl vAK vcK vks) := (by rw [T.cells, HVL.out.1, HVL.out.2]); have HY := hide hy; clear hy; refine step_append_slB rfl (.tmp 64) (.tmp 68) 22 rfl eiJ (base := bb + 3) (xs := l.map T.cells) rfl HI6.out.2.1 (tree_fit _) (ad := ⟨w5.heap.size, 0, none⟩) (c := 1) (y := [.int .i64 vk, .bool vb, .int .i64 vn, .string vs, .slice vA vnl vc, .slice vAK vnk vcK]) rfl (cells_at w5 [.int .i64 vk, .bool vb, .int .i64 vn, .string vs, .slice vA vnl vc, .slice vAK vnk vcK] 25) (by rw [HY.out]; exact tree_fit [_]) (by rw [List.length_map, HL.out]; omega) HI6.out.size (N := nl + 1) (by rw [List.length_map, HL.out]) ?_; intro A7 c7 w7 ho7 hg7 hb7 hA7; have HT6 := hide (TAt.grown (row := none) (World.grownBy_alloc w5 (.cells #[.int .i64 vk, .bool vb, .int .i64 vn, .string vs, .slice vA vnl vc, .slice vAK vnk vcK] 25) none) (fun q _ e => by cases e) HT5.out); have HI8 := hide (HI6.out.addL HT6.out hg7 (by rw [← HY.out]; exact ho7) hA7); have hb7_ := HI6.out.1.grown hg7 (by intro e; have := (HI6.out.2.1.lt _ e.symm).1; omega); clear ho7 hg7 hb7 hA7; clear c0 c1 c2 c3 c4 c5 lc fc; obtain ⟨c0, c1, c2, c3, c4, c5⟩ := At.z6 hb7_.at0; have lc := hb7_.lt; have fc := hb7_.free; clear hb7_)
                      refine hK.out _ _ (by (try dsimp only); (exact ⟨trivial, trivial⟩)) (fun hHeld => ?_)
                      clear hK K
                      (try simp only [Act.put, List.setIfInBounds_toArray, List.set_cons_zero, List.set_cons_succ])
                      refine wpAnyH_take (i := 7) (oi := ⟨some 70, _, _, _, _, _⟩) (v := ?_) rfl (by kernel_rfl) (by kernel_rfl) (by kernel_rfl) (fun _ _ _ h => h) (Or.inl ⟨by rfl, ?_⟩) (by assumption) ?_
                      rotate_left
                      · ((intro w hSw); (try dsimp only at hSw); go_simp; (try with_reducible rfl))
                      (try simp only [Act.put, List.setIfInBounds_toArray, List.set_cons_zero, List.set_cons_succ])
                      refine wpAnyH_ready (rs := [8]) (by kernel_rfl) (by simp) ?_
                      refine AllReadyH.cons (o := ⟨none, _, _, _, _, _⟩) rfl (fun K hK => ?_) AllReadyH.nil
                      go_simp
                      refine hK.out _ _ (by (try dsimp only); (exact ⟨trivial, trivial⟩)) (fun hHeld => ?_)
                      clear hK K
                      (try simp only [Act.put, List.setIfInBounds_toArray, List.set_cons_zero, List.set_cons_succ])
                      refine wpAnyH_done (by kernel_rfl) ?_ _
                      go_wp2_with (go_at_call 21; (with_reducible refine (WH.out i4 hi5 _ HI8.out.pr).mono ?_); rintro e w9 ⟨rfl, hp9, hm9⟩; have hwb := white_bd hi5; have HI9 := hide (HI8.out.mv hm9 hp9); clear hp9 hm9)
                      go_roundw
                      case rel => exact ⟨f, whiteE s i4, false, l ++ [(.mk vk vb vn vs vA vc vl vAK vcK vks)], A7, c7, nl + 1, ks ++ [q], A5, c5_, nk + 1, by omega, hwb.2, by omega, rfl, by show _ = _; rw [List.length_append, HL.out]; rfl, by omega, by show _ = _; rw [List.length_append, HKL.out]; rfl, by omega, by show _ = _; rw [js_app, T.js, T.js, HVJ.out]; exact HTJ.out, HI9.out⟩
                      case measure =>
                        rw [Pr.pos HI9.out.pr, Pr.pos HI.out.pr]
                        omega
              · have HRE : Hid (r = .error 300) := by show _ = _; rw [HRR.out, ← HTS3.out, if_pos hco]; rfl
                have TK2 := fun w' (hp : Pr w' g s i2) => jtake_no g s i2 58 w' hp hw2.2 (.inr hco) hs
                rw [show ((58 : Nat) : Int) = 58 from rfl] at TK2
                have TK2 := hide TK2
                clear hco HTS3
                go_wp2_with (first | (go_at_call 34; (with_reducible refine (TXX.out _ HIY.out.pr).mono ?_); rintro e w3 ⟨⟨rfl, hp3, hj3⟩, hm3⟩; have HI3 := hide (HIY.out.mv hm3 hp3); have hlk : (Instr.lookup 84 (.map (some (bb + 1 + 1))) (.string q) false).run Tryd.prog w3 = .ok (.bool false) w3 := (by have h_ := HI3.out.seen.look q hqs; rw [HCT.out] at h_; exact h_); clear hp3 hm3; clear c0 c1 c2 c3 c4 c5 lc fc) | (at_mapUpdate; refine wpList_seen rfl (.tmp 49) (.tmp 50) (.const (.bool true)) rfl (m := bb + 2) (n := nk) (ks := ks) (k := q) rfl rfl rfl HI3.out.seen hqs (by simp only [maxLen]; omega) ?_; intro w4 hs4 hg4; have HI4 := hide (HI3.out.see hg4 hs4); clear hs4 hg4 hlk; obtain ⟨c0, c1, c2, c3, c4, c5⟩ := At.z6 HI4.out.1.at0; have lc := HI4.out.1.lt; have fc := HI4.out.1.free) | (at_builtin; have HI5 := hide (HI4.out.step (w2 := w4.alloc (.cells #[.string q] 9))); refine wpList_append_slB rfl (.tmp 52) (.tmp 54) 23 rfl eiK (base := bb + 3) (xs := strCells ks) rfl HI5.out.2.2.1 (keys_fit _) (ad := ⟨w4.heap.size, 0, none⟩) (c := 1) (y := [.string q]) rfl (cells_at w4 [.string q] 9) (keys_fit [q]) (by rw [strCells, List.length_map, HKL.out]; omega) HI5.out.size (N := nk + 1) (by rw [strCells, List.length_map, HKL.out]) ?_; intro A5 c5_ w5 ho5 hg5 hb5 hA5; have HI6 := hide (HI5.out.addK hg5 ho5 hA5); have hb5_ := HI5.out.1.grown hg5 (by intro e; have := (HI5.out.2.2.1.lt _ e.symm).1; omega); clear ho5 hg5 hb5 hA5; clear c0 c1 c2 c3 c4 c5 lc fc; obtain ⟨c0, c1, c2, c3, c4, c5⟩ := At.z6 hb5_.at0; have lc := hb5_.lt; have fc := hb5_.free; clear hb5_) | (go_at_call 21; (with_reducible refine (WH.out i1 hi1s _ HI6.out.pr).mono ?_); rintro e w7 ⟨rfl, hp7, hm7⟩; rw [HW1.out] at hp7; have HI7 := hide (HI6.out.mv hm7 hp7); clear hp7 hm7; clear c0 c1 c2 c3 c4 c5 lc fc) | (go_at_call 52; (with_reducible refine (TK2.out _ HI7.out.pr).mono ?_); rintro e w8 ⟨rfl, hs8⟩))
                exact ⟨rfl, by rw [HRE.out]; rfl, HI7.out.mvd.fut⟩
        · have HRE : Hid (r = .error 300) := by show _ = _; rw [HRR.out, ← HTX.out, el_comma (by exact he) hq]; rfl
          have TK := fun w' (hp : Pr w' g s k) => jtake_no g s k 44 w' hp hk (.inr hq) hs
          rw [show ((44 : Nat) : Int) = 44 from rfl] at TK
          have TK := hide TK
          obtain ⟨C, hC⟩ : ∃ C : Int, (bA s k : Int) = C := ⟨_, rfl⟩
          rw [hC] at NK hnc
          have NK := hide NK
          clear he hC HTX hq
          go_wp2_with (first | (go_at_call 32; (with_reducible refine (NK.out _ HI.out.pr).mono ?_); rintro e w6 ⟨rfl, hs6⟩; have HI6 := hide (HI.out.step (w2 := w6))) | (go_at_call 52; (with_reducible refine (TK.out _ HI6.out.pr).mono ?_); rintro e w7 ⟨rfl, hs7⟩))
          exact ⟨rfl, by rw [HRE.out]; rfl, HI6.out.mvd.fut⟩
end Go.Proofs.YtoibfefalflooaaDoor
