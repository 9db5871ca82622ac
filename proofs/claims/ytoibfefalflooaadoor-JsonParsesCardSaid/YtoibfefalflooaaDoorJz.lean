/-
  The program's clone.
-/
import Derived.Test.YtoibfefalflooaaDoorJx
import Derived.Test.YtoibfefalflooaaDoorJr
import Derived.Deep.RegionHeld3
import Derived.Deep.RegionLaw
import Derived.Deep.Cut
import Derived.Deep.CutBlock
namespace Go.Proofs.YtoibfefalflooaaDoor
open Go.RowKit

/-- How a copy ends. -/
def CloR (w : World) (j : J) (e : Ending) (w' : World) : Prop := ∃ t : T, e = .returned (.agg t.cells.toArray) ∧ t.j = j ∧ TAt w' (fun q => w.heap.size ≤ q) t ∧ Step w w'
def CLO (t : T) : Prop := ∀ w, RdT w t → Calls Tryd.prog 31 #[.agg t.cells.toArray] w (CloR w t.j)
/-- What holds in clone's loop. -/
structure CloAt (bb : Nat) (K : Int) (b : Bool) (n : Int) (s : ByteArray) (w wr : World) (l : List T) (ks : List ByteArray) (A : Option Addr) (c nl : Nat) (AK : Option Addr) (cK nk : Nat) : Prop where
  blk : Blk wr bb 25 [.int .i64 K, .bool b, .int .i64 n, .string s, .slice A nl c, .slice AK nk cK]
  ol : Own wr (bb + 2) 25 6 (.slice A nl c) (l.map T.cells)
  ok : Own wr (bb + 2) 9 1 (.slice AK nk cK) (strCells ks)
  ts : TAts wr (fun q => bb + 2 ≤ q ∧ ob A ≠ some q ∧ ob AK ≠ some q) l
  zer : Blk wr (bb + 1) 25 zeroC
  st : Step w wr
  sz : w.heap.size = bb
  size : bb + 2 ≤ wr.heap.size
section
variable {bb : Nat} {K : Int} {b : Bool} {n : Int} {s : ByteArray} {w w1 w2 : World} {l : List T} {ks : List ByteArray} {A : Option Addr} {c nl : Nat} {AK : Option Addr} {cK nk : Nat}
theorem grown_of_below {w w' : World} (h : Below w.heap.size w w') : w.grownBy w' none := ⟨h.os, h.tape, h.output, h.size, fun k hk _ => h.block k hk⟩
theorem CloAt.step (h : CloAt bb K b n s w w1 l ks A c nl AK cK nk) [hs : Fut w1 w2] : CloAt bb K b n s w w2 l ks A c nl AK cK nk :=
  ⟨h.blk.fut, h.ol.fut, h.ok.fut, TAts.grown (grown_of_below hs.below) (fun q _ e => by cases e) h.ts, h.zer.fut, ⟨h.st.below.trans (hs.below.mono h.st.size)⟩, h.sz, Nat.le_trans h.size hs.below.size⟩
theorem CloAt.val (h : CloAt bb K b n s w w1 l ks A c nl AK cK nk) {t : T} (hs : Fut w1 w2) (ht : TAt w2 (fun q => w1.heap.size ≤ q) t) : CloAt bb K b n s w w2 l ks A c nl AK cK nk ∧ TAt w2 (fun q => bb + 2 ≤ q ∧ ob A ≠ some q ∧ ob AK ≠ some q) t :=
  ⟨h.step, TAt.weak (fun q hq => ⟨Nat.le_trans h.size hq, fun e => by have := (h.ol.lt q (by rw [ob_eq]; exact e)).2; omega, fun e => by have := (h.ok.lt q (by rw [ob_eq]; exact e)).2; omega⟩) ht⟩
theorem CloAt.addL (h : CloAt bb K b n s w w1 l ks A c nl AK cK nk) {t : T} {A2 : Option Addr} {c2 : Nat} (ht : TAt w1 (fun q => bb + 2 ≤ q ∧ ob A ≠ some q ∧ ob AK ≠ some q) t)
    (hg : w1.grownBy w2 (Value.slice A nl c).ownBlock) (ho : Own w2 (bb + 2) 25 6 (.slice A2 (nl + 1) c2) (l.map T.cells ++ [t.cells])) (hA : ob A2 = (Value.slice A nl c).ownBlock ∨ ob A2 = some w1.heap.size) :
    CloAt bb K b n s w (w2.setCell ⟨bb, 4, none⟩ (.slice A2 (nl + 1) c2)) (l ++ [t]) ks A2 c2 (nl + 1) AK cK nk := by
  obtain ⟨h1, h2, h3, h4, h5, h6, h7, h8⟩ := h
  have hbase : ∀ q, (Value.slice A nl c).ownBlock = some q → bb + 2 ≤ q := fun q e => (h2.lt q e).1
  have hlow : ∀ q, q < bb + 2 → some q ≠ (Value.slice A nl c).ownBlock := fun q hq e => by have := hbase q e.symm; omega
  have hset := grown_setCell w2 bb 4 (.slice A2 (nl + 1) c2)
  have hb2 : w1.heap.size ≤ w2.heap.size := hg.size
  have hok : ∀ q, (bb + 2 ≤ q ∧ ob A ≠ some q ∧ ob AK ≠ some q) ∧ q < w1.heap.size → bb + 2 ≤ q ∧ ob A2 ≠ some q ∧ ob AK ≠ some q := fun q hq => ⟨hq.1.1, fun e => by
    rcases hA with e1 | e1
    · rw [e1, ob_eq] at e; exact hq.1.2.1 e
    · rw [e1] at e; injection e with e; omega, hq.1.2.2⟩
  have hrow : ∀ q, (bb + 2 ≤ q ∧ ob A ≠ some q ∧ ob AK ≠ some q) ∧ q < w1.heap.size → (Value.slice A nl c).ownBlock ≠ some q := fun q hq e => hq.1.2.1 (by rw [← ob_eq A nl c]; exact e)
  have hrow2 : ∀ q, bb + 2 ≤ q ∧ ob A2 ≠ some q ∧ ob AK ≠ some q → some bb ≠ some q := fun q hq e => by have := hq.1; injection e with e; omega
  have hl4 := TAts.grown hset hrow2 (TAts.weak hok (TAts.grown hg hrow (TAts.lt h4)))
  have ht4 := TAt.grown hset hrow2 (TAt.weak hok (TAt.grown hg hrow (TAt.lt ht)))
  have hbel : Below w.heap.size w1 w2 := ⟨hg.os, hg.tape, hg.output, hg.size, fun q hq => hg.block q (Nat.lt_of_lt_of_le hq h6.size) (hlow q (by omega))⟩
  refine ⟨(h1.grown hg (hlow _ (by omega))).set_ 4 _, ?_, ?_, hl4.app ht4, ?_, ⟨(h6.below.trans hbel).setCell (p := ⟨bb, 4, none⟩) (by simp [h7]) _⟩, h7, Nat.le_trans (Nat.le_trans h8 hb2) hset.size⟩
  · rw [List.map_append]
    exact ho.grown_other hset (fun q e e2 => by have := (ho.lt q e).1; injection e2 with e2; omega)
  · exact (h3.grown_other hg (own_apart h3 h2 (by decide))).grown_other hset (fun q e e2 => by have := (h3.lt q e).1; injection e2 with e2; omega)
  · exact (h5.grown hg (hlow _ (by omega))).grown hset (by intro e; injection e with e; omega)
/-- Behind the loop the value is the copy. -/
theorem CloAt.done (h : CloAt bb K b n s w w1 l ks A c nl AK cK nk) (hl : l.length = nl) (hk : ks.length = nk) (hg : w1.grownBy w2 (some (bb + 1))) : TAt w2 (fun q => bb ≤ q) (.mk K b n s A c l AK cK ks) := by
  have hne : ∀ q, bb + 2 ≤ q → some (bb + 1) ≠ some q := fun q hq e => by injection e with e; omega
  have ht := TAts.grown hg (fun q hq => hne q hq.1) h.ts
  rw [TAt, hl, hk]
  exact ⟨(h.ol.grown_other hg (fun q e => hne q (h.ol.lt q e).1)).more (Nat.zero_le _), (h.ok.grown_other hg (fun q e => hne q (h.ok.lt q e).1)).more (Nat.zero_le _), fun q e => by have := (h.ol.lt q (by rw [ob_eq]; exact e)).1; omega, fun q e => by have := (h.ok.lt q (by rw [ob_eq]; exact e)).1; omega, TAts.weak (fun q hq => by have := hq.1; omega) ht⟩
end

set_option maxRecDepth 100000 in
set_option maxHeartbeats 16000000 in
theorem clone_of (K : Int) (b : Bool) (n : Int) (s : ByteArray) (A : Option Addr) (nl c : Nat) (l : List T) (AK : Option Addr) (nk cK : Nat) (ks : List ByteArray) (hl : l.length = nl) (hkl : ks.length = nk) (IH : ∀ t ∈ l, CLO t) (hlc : nl ≤ 1599289640401) (hnk : nk ≤ 8796093022208)
    (w : World) (hA : SlAt w w.heap.size 6 A (l.map T.cells)) (hrd : RdTs w l) (hAK : SlAt w w.heap.size 1 AK (strCells ks)) (R : J) (hR : J.mk K b n s (T.js l) ks = R) :
    Calls Tryd.prog 31 #[.agg #[.int .i64 K, .bool b, .int .i64 n, .string s, .slice A nl c, .slice AK nk cK]] w (CloR w R) := by
  have HL := hide hl; have HKL := hide hkl; have HIH := hide IH; have HA := hide hA; have HRD := hide hrd; have HAK := hide hAK; have HR := hide hR
  obtain ⟨W, hW⟩ : ∃ W : World, W = (w.alloc (.cells #[.int .i64 K, .bool b, .int .i64 n, .string s, .slice A nl c, .slice AK nk cK] 25)).alloc (.cells #[.int .i64 0, .bool false, .int .i64 0, .string ⟨#[]⟩, .slice none 0 0, .slice none 0 0] 25) := ⟨_, rfl⟩
  have HB : Hid (Blk W w.heap.size 25 [.int .i64 K, .bool b, .int .i64 n, .string s, .slice A nl c, .slice AK nk cK]) := by rw [hW]; exact (Blk.new w _ 25).alloc _
  have HZ : Hid (Blk W (w.heap.size + 1) 25 zeroC) := by rw [hW]; exact Blk.new_at (by simp) zeroC 25
  have SW : Step w W := by rw [hW]; exact Step.of
  have hWs : W.heap.size = w.heap.size + 1 + 1 := by rw [hW]; simp
  obtain ⟨bb, hbb⟩ : ∃ n, w.heap.size = n := ⟨_, rfl⟩
  have HBE := hide hbb
  have hWs2 : bb + 2 ≤ W.heap.size := by omega
  rw [hbb] at HB HZ
  clear hl hkl IH hA hrd hAK hR hWs
  go_enter Tryd.func31, Tryd.ntmps31
  go_upto_region 1 with fail
  rw [← hW]
  obtain ⟨c0, c1, c2, c3, c4, c5⟩ := At.z6 HB.out.at0
  have lc := HB.out.lt
  have fc := HB.out.free
  clear hW hbb
  go_wp2_with (at_builtin; go_loud (refine wpList_append_sl rfl (.const (.slice none 0 0)) (.tmp 7) 23 rfl eiK (base := bb + 2) (xs := []) rfl (Own.nil_ _ _ _ _) Fit.nil_ (ys := strCells ks) rfl (by rw [strCells, List.length_map, HKL.out]) (HAK.out.fut (w' := W)) (keys_fit _) (by rw [strCells, List.length_map, HKL.out]; show (0 + nk) * 16 ≤ _; omega) hWs2 (N := nk) (by rw [strCells, List.length_map, HKL.out]; exact Nat.zero_add _) ?_; intro A2 cK2 w2 hq1 hq2 hown2 hgr2 hbel2; have HO2 := hide hown2; have HG2 := hide hgr2; have HL2 := hide hbel2; clear hq1 hq2 hown2 hgr2 hbel2 c0 c1 c2 c3 c4 c5 lc fc; obtain ⟨c0, c1, c2, c3, c4, c5⟩ := At.z6 (HB.out.below HL2.out (by omega)).at0; have lc := (HB.out.below HL2.out (by omega)).lt; have fc := (HB.out.below HL2.out (by omega)).free))
  have H0 : Hid (CloAt bb K b n s w ((w2.setCell ⟨bb, 5, none⟩ (.slice A2 nk cK2)).setCell ⟨bb, 4, none⟩ (.slice none 0 0)) [] ks none 0 0 A2 cK2 nk) := by
    have g1 := grown_setCell w2 bb 5 (.slice A2 nk cK2)
    have g2 := grown_setCell (w2.setCell ⟨bb, 5, none⟩ (.slice A2 nk cK2)) bb 4 (.slice none 0 0)
    refine ⟨((HB.out.below HL2.out (by omega)).set_ 5 _).set_ 4 _, Own.nil_ _ _ _ _, ?_, by rw [TAts]; trivial, ?_, ⟨((SW.below.trans (HL2.out.mono (by have := HBE.out; omega))).setCell (p := ⟨bb, 5, none⟩) (by have := HBE.out; show _ ≤ bb; omega) _).setCell (p := ⟨bb, 4, none⟩) (by have := HBE.out; show _ ≤ bb; omega) _⟩, HBE.out, Nat.le_trans hWs2 (Nat.le_trans HL2.out.size (Nat.le_trans g1.size g2.size))⟩
    · exact (HO2.out.grown_other g1 (fun q e e2 => by have := (HO2.out.lt q e).1; injection e2 with e2; omega)).grown_other g2 (fun q e e2 => by have := (HO2.out.lt q e).1; injection e2 with e2; omega)
    · exact ((HZ.out.below HL2.out (by omega)).grown g1 (by intro e; injection e with e; omega)).grown g2 (by intro e; injection e with e; omega)
  obtain ⟨X, hX⟩ : ∃ X : World, X = (w2.setCell ⟨bb, 5, none⟩ (.slice A2 nk cK2)).setCell ⟨bb, 4, none⟩ (.slice none 0 0) := ⟨_, rfl⟩
  rw [← hX] at H0
  rw [← hX]
  clear hX c0 c1 c2 c3 c4 c5 lc fc HO2 HG2 HL2 HB HZ
  go_loopw [15] (fun v15 wr => ∃ (k : Nat) (lc : List T) (A3 : Option Addr) (c3 : Nat), k ≤ nl ∧ v15 = .int .i64 k ∧ Hid (T.js lc = (T.js l).take k ∧ lc.length = k) ∧ CloAt bb K b n s w wr lc ks A3 c3 k A2 cK2 nk) (fun v15 _ => nl - (intOf v15).toNat)
  case atStart => exact ⟨0, [], none, 0, Nat.zero_le _, rfl, ⟨by rw [T.js, List.take_zero], rfl⟩, H0.out⟩
  case round =>
    obtain ⟨k, lk, A3, c3_, hk, rfl, HLK, hca⟩ := hrel
    have HC := hide hca
    have hst := hca.st
    clear hca H0
    obtain ⟨wo, rfl⟩ : ∃ x : World, x = wr := ⟨_, rfl⟩
    by_cases hlt : k < nl
    · have hkl : (k : Int) < (nl : Int) := by omega
      have hk0 : (0 : Int) ≤ (k : Int) := by omega
      have hfo : Fut w wo := ⟨hst.below⟩
      obtain ⟨bL, oL, rfl, hbL, hcL⟩ := HA.out.elem hfo (k := k) (by rw [List.length_map, HL.out]; exact hlt)
      obtain ⟨tk, htk⟩ : ∃ tk, l[k]? = some tk := ⟨_, List.getElem?_eq_getElem (by rw [HL.out]; exact hlt)⟩
      have HTJ : Hid ((T.js l).take (k + 1) = (T.js l).take k ++ [tk.j]) := by
        show _ = _
        rw [List.take_add_one, js_map, List.getElem?_map, htk]
        rfl
      have hat := hcL k _ (by rw [List.getElem?_map, htk]; rfl)
      have CL := HIH.out tk (List.mem_of_getElem? htk)
      have hrt := HRD.out.get htk
      clear hcL htk
      cases tk with
      | mk xk xb xn xs xA xc xl xAK xcK xks =>
      unfold CLO at CL
      simp only [T.cells] at CL hat
      obtain ⟨xnl, hxnl⟩ : ∃ n, xl.length = n := ⟨_, rfl⟩
      obtain ⟨xnk, hxnk⟩ : ∃ n, xks.length = n := ⟨_, rfl⟩
      rw [hxnl, hxnk] at CL hat
      obtain ⟨W5, hW5⟩ : ∃ W5 : World, W5 = wo.alloc (.cells #[.int .i64 xk, .bool xb, .int .i64 xn, .string xs, .slice xA xnl xc, .slice xAK xnk xcK] 25) := ⟨_, rfl⟩
      have HX : Hid (Blk W5 wo.heap.size 25 [.int .i64 xk, .bool xb, .int .i64 xn, .string xs, .slice xA xnl xc, .slice xAK xnk xcK]) := by rw [hW5]; exact Blk.new wo _ 25
      have F5 : Fut wo W5 := by rw [hW5]; exact inferInstance
      have HC5 := hide (HC.out.step (w2 := W5))
      have HIV : Hid (∀ w' (hf : Fut W5 w'), Calls Tryd.prog 31 #[.agg #[.int .i64 xk, .bool xb, .int .i64 xn, .string xs, .slice xA xnl xc, .slice xAK xnk xcK]] w' fun e w'' => (∃ (vk : Int) (vb : Bool) (vn : Int) (vs : ByteArray) (vA : Option Addr) (vc vnl : Nat) (vl : List T) (vAK : Option Addr) (vcK vnk : Nat) (vks : List ByteArray), e = .returned (.agg #[.int .i64 vk, .bool vb, .int .i64 vn, .string vs, .slice vA vnl vc, .slice vAK vnk vcK]) ∧ Hid (vl.length = vnl ∧ vks.length = vnk) ∧ Hid (T.j (.mk vk vb vn vs vA vc vl vAK vcK vks) = T.j (.mk xk xb xn xs xA xc xl xAK xcK xks)) ∧ TAt w'' (fun q => w'.heap.size ≤ q) (.mk vk vb vn vs vA vc vl vAK vcK vks)) ∧ Step w' w'') := by
        intro w' hf
        have hr : RdT w' (.mk xk xb xn xs xA xc xl xAK xcK xks) := RdT.fut (w := w) (h := ⟨hfo.below.trans ((F5.below.trans (hf.below.mono F5.below.size)).mono hfo.below.size)⟩) hrt
        refine (CL w' hr).mono fun e w'' hh => ?_
        obtain ⟨t, h1, h2, h3, h4⟩ := hh
        cases t with
        | mk vk vb vn vs vA vc vl vAK vcK vks => exact ⟨⟨vk, vb, vn, vs, vA, vc, _, vl, vAK, vcK, _, vks, h1, ⟨rfl, rfl⟩, h2, h3⟩, h4⟩
      have hgo : bb + 2 ≤ wo.heap.size := HC.out.size
      obtain ⟨q, hq⟩ : ∃ q, wo.heap.size = q := ⟨_, rfl⟩
      obtain ⟨x0, x1, x2, x3, x4, x5⟩ := At.o6 hat
      clear hat CL hrt hxnl hxnk
      go_upto_region 7 with fail
      rw [← hW5]
      rw [hq] at HX hgo
      clear hW5 hq x0 x1 x2 x3 x4 x5
      obtain ⟨x0, x1, x2, x3, x4, x5⟩ := At.z6 HX.out.at0
      have lx := HX.out.lt
      obtain ⟨c0, c1, c2, c3, c4, c5⟩ := At.z6 HC5.out.blk.at0
      have lc := HC5.out.blk.lt
      have fc := HC5.out.blk.free
      refine wp_region_held_drew (S := (fun _ => True ∧ True)) (by kernel_rfl) (by (try dsimp only); (exact ⟨trivial, trivial⟩)) (fun hHeld => ?_)
      refine wpAnyH_take (i := 0) (oi := ⟨some 19, _, _, _, _, _⟩) (v := ?_) rfl (by kernel_rfl) (by kernel_rfl) (by kernel_rfl) (fun _ _ _ h => h) (Or.inl ⟨by rfl, ?_⟩) (by assumption) ?_
      rotate_left
      · ((intro w hSw); (try dsimp only at hSw); go_simp; (try with_reducible rfl))
      (try simp only [Act.put, List.setIfInBounds_toArray, List.set_cons_zero, List.set_cons_succ])
      refine wpAnyH_ready (rs := [1, 2]) (by kernel_rfl) (by simp) ?_
      refine AllReadyH.cons (o := ⟨some 20, _, _, _, _, _⟩) rfl (fun K hK => ?_) (AllReadyH.cons (o := ⟨some 21, _, _, _, _, _⟩) rfl (fun K hK => ?_) AllReadyH.nil)
      · go_simp
        refine hK.out _ _ (by (try dsimp only); (exact ⟨trivial, trivial⟩)) (fun hHeld => ?_)
        clear hK K
        (try simp only [Act.put, List.setIfInBounds_toArray, List.set_cons_zero, List.set_cons_succ])
        refine wpAnyH_ready (rs := [2]) (by kernel_rfl) (by simp) ?_
        refine AllReadyH.cons (o := ⟨some 21, _, _, _, _, _⟩) rfl (fun K hK => ?_) AllReadyH.nil
        go_simp
        refine hK.out _ _ (by (try dsimp only); (exact ⟨trivial, trivial⟩)) (fun hHeld => ?_)
        clear hK K
        (try simp only [Act.put, List.setIfInBounds_toArray, List.set_cons_zero, List.set_cons_succ])
        refine wpAnyH_ready (rs := [3]) (by kernel_rfl) (by simp) ?_
        refine AllReadyH.cons (o := ⟨some 22, _, _, _, _, _⟩) rfl (fun K hK => ?_) AllReadyH.nil
        obtain ⟨hS1, hS2⟩ := hHeld
        go_simp
        (go_at_call 31; (with_reducible refine (HIV.out _ inferInstance).mono ?_); rintro e w5 ⟨⟨vk, vb, vn, vs, vA, vc, vnl, vl, vAK, vcK, vnk, vks, rfl, HVL, HVJ, ht5⟩, hs5⟩; obtain ⟨hI6, hT6⟩ := HC5.out.val (w2 := w5) inferInstance ht5; have HC6 := hide hI6; have HT6 := hide hT6; clear hI6 hT6 ht5; clear c0 c1 c2 c3 c4 c5 lc fc x0 x1 x2 x3 x4 x5 lx; obtain ⟨c0, c1, c2, c3, c4, c5⟩ := At.z6 HC6.out.blk.at0; have lc := HC6.out.blk.lt; have fc := HC6.out.blk.free)
        refine hK.out _ _ (by (try dsimp only); (exact ⟨trivial, trivial⟩)) (fun hHeld => ?_)
        clear hK K
        (try simp only [Act.put, List.setIfInBounds_toArray, List.set_cons_zero, List.set_cons_succ])
        refine wpAnyH_ready (rs := [4]) (by kernel_rfl) (by simp) ?_
        refine AllReadyH.cons (o := ⟨some 23, _, _, _, _, _⟩) rfl (fun K hK => ?_) AllReadyH.nil
        go_simp
        refine hK.out _ _ (by (try dsimp only); (exact ⟨trivial, trivial⟩)) (fun hHeld => ?_)
        clear hK K
        (try simp only [Act.put, List.setIfInBounds_toArray, List.set_cons_zero, List.set_cons_succ])
        refine wpAnyH_ready (rs := [5]) (by kernel_rfl) (by simp) ?_
        refine AllReadyH.cons (o := ⟨some 24, _, _, _, _, _⟩) rfl (fun K hK => ?_) AllReadyH.nil
        (have HC7 := hide (HC6.out.step (w2 := w5.alloc (.cells #[.int .i64 vk, .bool vb, .int .i64 vn, .string vs, .slice vA vnl vc, .slice vAK vnk vcK] 25))); have hy : [.int .i64 vk, .bool vb, .int .i64 vn, .string vs, .slice vA vnl vc, .slice vAK vnk vcK] = T.cells (.mk vk vb vn vs vA vc vl vAK vcK vks) := (by rw [T.cells, HVL.out.1, HVL.out.2]); have HY := hide hy; clear hy; refine step_append_slB rfl (.tmp 20) (.tmp 23) 22 rfl eiJ (base := bb + 2) (xs := lk.map T.cells) rfl HC7.out.ol (tree_fit _) (ad := ⟨w5.heap.size, 0, none⟩) (c := 1) (y := [.int .i64 vk, .bool vb, .int .i64 vn, .string vs, .slice vA vnl vc, .slice vAK vnk vcK]) rfl (cells_at w5 [.int .i64 vk, .bool vb, .int .i64 vn, .string vs, .slice vA vnl vc, .slice vAK vnk vcK] 25) (by rw [HY.out]; exact tree_fit [_]) (by rw [List.length_map, HLK.out.2]; omega) HC7.out.size (N := k + 1) (by rw [List.length_map, HLK.out.2]) ?_; intro A7 c7 w7 ho7 hg7 hb7 hA7; have HT7 := hide (TAt.grown (row := none) (World.grownBy_alloc w5 (.cells #[.int .i64 vk, .bool vb, .int .i64 vn, .string vs, .slice vA vnl vc, .slice vAK vnk vcK] 25) none) (fun q _ e => by cases e) HT6.out); have HC8 := hide (HC7.out.addL HT7.out hg7 (by rw [← HY.out]; exact ho7) hA7); have hb7_ := HC7.out.blk.grown hg7 (by intro e; have := (HC7.out.ol.lt _ e.symm).1; omega); clear ho7 hg7 hb7 hA7; clear c0 c1 c2 c3 c4 c5 lc fc; obtain ⟨c0, c1, c2, c3, c4, c5⟩ := At.z6 hb7_.at0; have lc := hb7_.lt; have fc := hb7_.free; clear hb7_)
        refine hK.out _ _ (by (try dsimp only); (exact ⟨trivial, trivial⟩)) (fun hHeld => ?_)
        clear hK K
        (try simp only [Act.put, List.setIfInBounds_toArray, List.set_cons_zero, List.set_cons_succ])
        refine wpAnyH_take (i := 6) (oi := ⟨some 25, _, _, _, _, _⟩) (v := ?_) rfl (by kernel_rfl) (by kernel_rfl) (by kernel_rfl) (fun _ _ _ h => h) (Or.inl ⟨by rfl, ?_⟩) (by assumption) ?_
        rotate_left
        · ((intro w hSw); (try dsimp only at hSw); go_simp; (try with_reducible rfl))
        (try simp only [Act.put, List.setIfInBounds_toArray, List.set_cons_zero, List.set_cons_succ])
        refine wpAnyH_ready (rs := [7]) (by kernel_rfl) (by simp) ?_
        refine AllReadyH.cons (o := ⟨none, _, _, _, _, _⟩) rfl (fun K hK => ?_) AllReadyH.nil
        go_simp
        refine hK.out _ _ (by (try dsimp only); (exact ⟨trivial, trivial⟩)) (fun hHeld => ?_)
        clear hK K
        (try simp only [Act.put, List.setIfInBounds_toArray, List.set_cons_zero, List.set_cons_succ])
        refine wpAnyH_done (by kernel_rfl) ?_ _
        go_wp2_with fail
        go_roundw
        case rel => exact ⟨k + 1, lk ++ [(.mk vk vb vn vs vA vc vl vAK vcK vks)], A7, c7, by omega, by go_num, ⟨by rw [js_app, HLK.out.1, HTJ.out, T.js, T.js, HVJ.out], by rw [List.length_append, HLK.out.2]; rfl⟩, HC8.out⟩
        case measure => simp [intOf]; omega
      · go_simp
        refine hK.out _ _ (by (try dsimp only); (exact ⟨trivial, trivial⟩)) (fun hHeld => ?_)
        clear hK K
        (try simp only [Act.put, List.setIfInBounds_toArray, List.set_cons_zero, List.set_cons_succ])
        refine wpAnyH_ready (rs := [1, 3]) (by kernel_rfl) (by simp) ?_
        refine AllReadyH.cons (o := ⟨some 20, _, _, _, _, _⟩) rfl (fun K hK => ?_) (AllReadyH.cons (o := ⟨some 22, _, _, _, _, _⟩) rfl (fun K hK => ?_) AllReadyH.nil)
        · go_simp
          refine hK.out _ _ (by (try dsimp only); (exact ⟨trivial, trivial⟩)) (fun hHeld => ?_)
          clear hK K
          (try simp only [Act.put, List.setIfInBounds_toArray, List.set_cons_zero, List.set_cons_succ])
          refine wpAnyH_ready (rs := [3]) (by kernel_rfl) (by simp) ?_
          refine AllReadyH.cons (o := ⟨some 22, _, _, _, _, _⟩) rfl (fun K hK => ?_) AllReadyH.nil
          obtain ⟨hS1, hS2⟩ := hHeld
          go_simp
          (go_at_call 31; (with_reducible refine (HIV.out _ inferInstance).mono ?_); rintro e w5 ⟨⟨vk, vb, vn, vs, vA, vc, vnl, vl, vAK, vcK, vnk, vks, rfl, HVL, HVJ, ht5⟩, hs5⟩; obtain ⟨hI6, hT6⟩ := HC5.out.val (w2 := w5) inferInstance ht5; have HC6 := hide hI6; have HT6 := hide hT6; clear hI6 hT6 ht5; clear c0 c1 c2 c3 c4 c5 lc fc x0 x1 x2 x3 x4 x5 lx; obtain ⟨c0, c1, c2, c3, c4, c5⟩ := At.z6 HC6.out.blk.at0; have lc := HC6.out.blk.lt; have fc := HC6.out.blk.free)
          refine hK.out _ _ (by (try dsimp only); (exact ⟨trivial, trivial⟩)) (fun hHeld => ?_)
          clear hK K
          (try simp only [Act.put, List.setIfInBounds_toArray, List.set_cons_zero, List.set_cons_succ])
          refine wpAnyH_ready (rs := [4]) (by kernel_rfl) (by simp) ?_
          refine AllReadyH.cons (o := ⟨some 23, _, _, _, _, _⟩) rfl (fun K hK => ?_) AllReadyH.nil
          go_simp
          refine hK.out _ _ (by (try dsimp only); (exact ⟨trivial, trivial⟩)) (fun hHeld => ?_)
          clear hK K
          (try simp only [Act.put, List.setIfInBounds_toArray, List.set_cons_zero, List.set_cons_succ])
          refine wpAnyH_ready (rs := [5]) (by kernel_rfl) (by simp) ?_
          refine AllReadyH.cons (o := ⟨some 24, _, _, _, _, _⟩) rfl (fun K hK => ?_) AllReadyH.nil
          (have HC7 := hide (HC6.out.step (w2 := w5.alloc (.cells #[.int .i64 vk, .bool vb, .int .i64 vn, .string vs, .slice vA vnl vc, .slice vAK vnk vcK] 25))); have hy : [.int .i64 vk, .bool vb, .int .i64 vn, .string vs, .slice vA vnl vc, .slice vAK vnk vcK] = T.cells (.mk vk vb vn vs vA vc vl vAK vcK vks) := (by rw [T.cells, HVL.out.1, HVL.out.2]); have HY := hide hy; clear hy; refine step_append_slB rfl (.tmp 20) (.tmp 23) 22 rfl eiJ (base := bb + 2) (xs := lk.map T.cells) rfl HC7.out.ol (tree_fit _) (ad := ⟨w5.heap.size, 0, none⟩) (c := 1) (y := [.int .i64 vk, .bool vb, .int .i64 vn, .string vs, .slice vA vnl vc, .slice vAK vnk vcK]) rfl (cells_at w5 [.int .i64 vk, .bool vb, .int .i64 vn, .string vs, .slice vA vnl vc, .slice vAK vnk vcK] 25) (by rw [HY.out]; exact tree_fit [_]) (by rw [List.length_map, HLK.out.2]; omega) HC7.out.size (N := k + 1) (by rw [List.length_map, HLK.out.2]) ?_; intro A7 c7 w7 ho7 hg7 hb7 hA7; have HT7 := hide (TAt.grown (row := none) (World.grownBy_alloc w5 (.cells #[.int .i64 vk, .bool vb, .int .i64 vn, .string vs, .slice vA vnl vc, .slice vAK vnk vcK] 25) none) (fun q _ e => by cases e) HT6.out); have HC8 := hide (HC7.out.addL HT7.out hg7 (by rw [← HY.out]; exact ho7) hA7); have hb7_ := HC7.out.blk.grown hg7 (by intro e; have := (HC7.out.ol.lt _ e.symm).1; omega); clear ho7 hg7 hb7 hA7; clear c0 c1 c2 c3 c4 c5 lc fc; obtain ⟨c0, c1, c2, c3, c4, c5⟩ := At.z6 hb7_.at0; have lc := hb7_.lt; have fc := hb7_.free; clear hb7_)
          refine hK.out _ _ (by (try dsimp only); (exact ⟨trivial, trivial⟩)) (fun hHeld => ?_)
          clear hK K
          (try simp only [Act.put, List.setIfInBounds_toArray, List.set_cons_zero, List.set_cons_succ])
          refine wpAnyH_take (i := 6) (oi := ⟨some 25, _, _, _, _, _⟩) (v := ?_) rfl (by kernel_rfl) (by kernel_rfl) (by kernel_rfl) (fun _ _ _ h => h) (Or.inl ⟨by rfl, ?_⟩) (by assumption) ?_
          rotate_left
          · ((intro w hSw); (try dsimp only at hSw); go_simp; (try with_reducible rfl))
          (try simp only [Act.put, List.setIfInBounds_toArray, List.set_cons_zero, List.set_cons_succ])
          refine wpAnyH_ready (rs := [7]) (by kernel_rfl) (by simp) ?_
          refine AllReadyH.cons (o := ⟨none, _, _, _, _, _⟩) rfl (fun K hK => ?_) AllReadyH.nil
          go_simp
          refine hK.out _ _ (by (try dsimp only); (exact ⟨trivial, trivial⟩)) (fun hHeld => ?_)
          clear hK K
          (try simp only [Act.put, List.setIfInBounds_toArray, List.set_cons_zero, List.set_cons_succ])
          refine wpAnyH_done (by kernel_rfl) ?_ _
          go_wp2_with fail
          go_roundw
          case rel => exact ⟨k + 1, lk ++ [(.mk vk vb vn vs vA vc vl vAK vcK vks)], A7, c7, by omega, by go_num, ⟨by rw [js_app, HLK.out.1, HTJ.out, T.js, T.js, HVJ.out], by rw [List.length_append, HLK.out.2]; rfl⟩, HC8.out⟩
          case measure => simp [intOf]; omega
        · obtain ⟨hS1, hS2⟩ := hHeld
          go_simp
          (go_at_call 31; (with_reducible refine (HIV.out _ inferInstance).mono ?_); rintro e w5 ⟨⟨vk, vb, vn, vs, vA, vc, vnl, vl, vAK, vcK, vnk, vks, rfl, HVL, HVJ, ht5⟩, hs5⟩; obtain ⟨hI6, hT6⟩ := HC5.out.val (w2 := w5) inferInstance ht5; have HC6 := hide hI6; have HT6 := hide hT6; clear hI6 hT6 ht5; clear c0 c1 c2 c3 c4 c5 lc fc x0 x1 x2 x3 x4 x5 lx; obtain ⟨c0, c1, c2, c3, c4, c5⟩ := At.z6 HC6.out.blk.at0; have lc := HC6.out.blk.lt; have fc := HC6.out.blk.free)
          refine hK.out _ _ (by (try dsimp only); (exact ⟨trivial, trivial⟩)) (fun hHeld => ?_)
          clear hK K
          (try simp only [Act.put, List.setIfInBounds_toArray, List.set_cons_zero, List.set_cons_succ])
          refine wpAnyH_ready (rs := [1, 4]) (by kernel_rfl) (by simp) ?_
          refine AllReadyH.cons (o := ⟨some 20, _, _, _, _, _⟩) rfl (fun K hK => ?_) (AllReadyH.cons (o := ⟨some 23, _, _, _, _, _⟩) rfl (fun K hK => ?_) AllReadyH.nil)
          · go_simp
            refine hK.out _ _ (by (try dsimp only); (exact ⟨trivial, trivial⟩)) (fun hHeld => ?_)
            clear hK K
            (try simp only [Act.put, List.setIfInBounds_toArray, List.set_cons_zero, List.set_cons_succ])
            refine wpAnyH_ready (rs := [4]) (by kernel_rfl) (by simp) ?_
            refine AllReadyH.cons (o := ⟨some 23, _, _, _, _, _⟩) rfl (fun K hK => ?_) AllReadyH.nil
            go_simp
            refine hK.out _ _ (by (try dsimp only); (exact ⟨trivial, trivial⟩)) (fun hHeld => ?_)
            clear hK K
            (try simp only [Act.put, List.setIfInBounds_toArray, List.set_cons_zero, List.set_cons_succ])
            refine wpAnyH_ready (rs := [5]) (by kernel_rfl) (by simp) ?_
            refine AllReadyH.cons (o := ⟨some 24, _, _, _, _, _⟩) rfl (fun K hK => ?_) AllReadyH.nil
            (have HC7 := hide (HC6.out.step (w2 := w5.alloc (.cells #[.int .i64 vk, .bool vb, .int .i64 vn, .string vs, .slice vA vnl vc, .slice vAK vnk vcK] 25))); have hy : [.int .i64 vk, .bool vb, .int .i64 vn, .string vs, .slice vA vnl vc, .slice vAK vnk vcK] = T.cells (.mk vk vb vn vs vA vc vl vAK vcK vks) := (by rw [T.cells, HVL.out.1, HVL.out.2]); have HY := hide hy; clear hy; refine step_append_slB rfl (.tmp 20) (.tmp 23) 22 rfl eiJ (base := bb + 2) (xs := lk.map T.cells) rfl HC7.out.ol (tree_fit _) (ad := ⟨w5.heap.size, 0, none⟩) (c := 1) (y := [.int .i64 vk, .bool vb, .int .i64 vn, .string vs, .slice vA vnl vc, .slice vAK vnk vcK]) rfl (cells_at w5 [.int .i64 vk, .bool vb, .int .i64 vn, .string vs, .slice vA vnl vc, .slice vAK vnk vcK] 25) (by rw [HY.out]; exact tree_fit [_]) (by rw [List.length_map, HLK.out.2]; omega) HC7.out.size (N := k + 1) (by rw [List.length_map, HLK.out.2]) ?_; intro A7 c7 w7 ho7 hg7 hb7 hA7; have HT7 := hide (TAt.grown (row := none) (World.grownBy_alloc w5 (.cells #[.int .i64 vk, .bool vb, .int .i64 vn, .string vs, .slice vA vnl vc, .slice vAK vnk vcK] 25) none) (fun q _ e => by cases e) HT6.out); have HC8 := hide (HC7.out.addL HT7.out hg7 (by rw [← HY.out]; exact ho7) hA7); have hb7_ := HC7.out.blk.grown hg7 (by intro e; have := (HC7.out.ol.lt _ e.symm).1; omega); clear ho7 hg7 hb7 hA7; clear c0 c1 c2 c3 c4 c5 lc fc; obtain ⟨c0, c1, c2, c3, c4, c5⟩ := At.z6 hb7_.at0; have lc := hb7_.lt; have fc := hb7_.free; clear hb7_)
            refine hK.out _ _ (by (try dsimp only); (exact ⟨trivial, trivial⟩)) (fun hHeld => ?_)
            clear hK K
            (try simp only [Act.put, List.setIfInBounds_toArray, List.set_cons_zero, List.set_cons_succ])
            refine wpAnyH_take (i := 6) (oi := ⟨some 25, _, _, _, _, _⟩) (v := ?_) rfl (by kernel_rfl) (by kernel_rfl) (by kernel_rfl) (fun _ _ _ h => h) (Or.inl ⟨by rfl, ?_⟩) (by assumption) ?_
            rotate_left
            · ((intro w hSw); (try dsimp only at hSw); go_simp; (try with_reducible rfl))
            (try simp only [Act.put, List.setIfInBounds_toArray, List.set_cons_zero, List.set_cons_succ])
            refine wpAnyH_ready (rs := [7]) (by kernel_rfl) (by simp) ?_
            refine AllReadyH.cons (o := ⟨none, _, _, _, _, _⟩) rfl (fun K hK => ?_) AllReadyH.nil
            go_simp
            refine hK.out _ _ (by (try dsimp only); (exact ⟨trivial, trivial⟩)) (fun hHeld => ?_)
            clear hK K
            (try simp only [Act.put, List.setIfInBounds_toArray, List.set_cons_zero, List.set_cons_succ])
            refine wpAnyH_done (by kernel_rfl) ?_ _
            go_wp2_with fail
            go_roundw
            case rel => exact ⟨k + 1, lk ++ [(.mk vk vb vn vs vA vc vl vAK vcK vks)], A7, c7, by omega, by go_num, ⟨by rw [js_app, HLK.out.1, HTJ.out, T.js, T.js, HVJ.out], by rw [List.length_append, HLK.out.2]; rfl⟩, HC8.out⟩
            case measure => simp [intOf]; omega
          · go_simp
            refine hK.out _ _ (by (try dsimp only); (exact ⟨trivial, trivial⟩)) (fun hHeld => ?_)
            clear hK K
            (try simp only [Act.put, List.setIfInBounds_toArray, List.set_cons_zero, List.set_cons_succ])
            refine wpAnyH_ready (rs := [1]) (by kernel_rfl) (by simp) ?_
            refine AllReadyH.cons (o := ⟨some 20, _, _, _, _, _⟩) rfl (fun K hK => ?_) AllReadyH.nil
            go_simp
            refine hK.out _ _ (by (try dsimp only); (exact ⟨trivial, trivial⟩)) (fun hHeld => ?_)
            clear hK K
            (try simp only [Act.put, List.setIfInBounds_toArray, List.set_cons_zero, List.set_cons_succ])
            refine wpAnyH_ready (rs := [5]) (by kernel_rfl) (by simp) ?_
            refine AllReadyH.cons (o := ⟨some 24, _, _, _, _, _⟩) rfl (fun K hK => ?_) AllReadyH.nil
            (have HC7 := hide (HC6.out.step (w2 := w5.alloc (.cells #[.int .i64 vk, .bool vb, .int .i64 vn, .string vs, .slice vA vnl vc, .slice vAK vnk vcK] 25))); have hy : [.int .i64 vk, .bool vb, .int .i64 vn, .string vs, .slice vA vnl vc, .slice vAK vnk vcK] = T.cells (.mk vk vb vn vs vA vc vl vAK vcK vks) := (by rw [T.cells, HVL.out.1, HVL.out.2]); have HY := hide hy; clear hy; refine step_append_slB rfl (.tmp 20) (.tmp 23) 22 rfl eiJ (base := bb + 2) (xs := lk.map T.cells) rfl HC7.out.ol (tree_fit _) (ad := ⟨w5.heap.size, 0, none⟩) (c := 1) (y := [.int .i64 vk, .bool vb, .int .i64 vn, .string vs, .slice vA vnl vc, .slice vAK vnk vcK]) rfl (cells_at w5 [.int .i64 vk, .bool vb, .int .i64 vn, .string vs, .slice vA vnl vc, .slice vAK vnk vcK] 25) (by rw [HY.out]; exact tree_fit [_]) (by rw [List.length_map, HLK.out.2]; omega) HC7.out.size (N := k + 1) (by rw [List.length_map, HLK.out.2]) ?_; intro A7 c7 w7 ho7 hg7 hb7 hA7; have HT7 := hide (TAt.grown (row := none) (World.grownBy_alloc w5 (.cells #[.int .i64 vk, .bool vb, .int .i64 vn, .string vs, .slice vA vnl vc, .slice vAK vnk vcK] 25) none) (fun q _ e => by cases e) HT6.out); have HC8 := hide (HC7.out.addL HT7.out hg7 (by rw [← HY.out]; exact ho7) hA7); have hb7_ := HC7.out.blk.grown hg7 (by intro e; have := (HC7.out.ol.lt _ e.symm).1; omega); clear ho7 hg7 hb7 hA7; clear c0 c1 c2 c3 c4 c5 lc fc; obtain ⟨c0, c1, c2, c3, c4, c5⟩ := At.z6 hb7_.at0; have lc := hb7_.lt; have fc := hb7_.free; clear hb7_)
            refine hK.out _ _ (by (try dsimp only); (exact ⟨trivial, trivial⟩)) (fun hHeld => ?_)
            clear hK K
            (try simp only [Act.put, List.setIfInBounds_toArray, List.set_cons_zero, List.set_cons_succ])
            refine wpAnyH_take (i := 6) (oi := ⟨some 25, _, _, _, _, _⟩) (v := ?_) rfl (by kernel_rfl) (by kernel_rfl) (by kernel_rfl) (fun _ _ _ h => h) (Or.inl ⟨by rfl, ?_⟩) (by assumption) ?_
            rotate_left
            · ((intro w hSw); (try dsimp only at hSw); go_simp; (try with_reducible rfl))
            (try simp only [Act.put, List.setIfInBounds_toArray, List.set_cons_zero, List.set_cons_succ])
            refine wpAnyH_ready (rs := [7]) (by kernel_rfl) (by simp) ?_
            refine AllReadyH.cons (o := ⟨none, _, _, _, _, _⟩) rfl (fun K hK => ?_) AllReadyH.nil
            go_simp
            refine hK.out _ _ (by (try dsimp only); (exact ⟨trivial, trivial⟩)) (fun hHeld => ?_)
            clear hK K
            (try simp only [Act.put, List.setIfInBounds_toArray, List.set_cons_zero, List.set_cons_succ])
            refine wpAnyH_done (by kernel_rfl) ?_ _
            go_wp2_with fail
            go_roundw
            case rel => exact ⟨k + 1, lk ++ [(.mk vk vb vn vs vA vc vl vAK vcK vks)], A7, c7, by omega, by go_num, ⟨by rw [js_app, HLK.out.1, HTJ.out, T.js, T.js, HVJ.out], by rw [List.length_append, HLK.out.2]; rfl⟩, HC8.out⟩
            case measure => simp [intOf]; omega
    · obtain rfl : k = nl := by omega
      clear hlt
      obtain ⟨c0, c1, c2, c3, c4, c5⟩ := At.z6 HC.out.blk.at0
      have lc := HC.out.blk.lt
      obtain ⟨z0, z1, z2, z3, z4, z5⟩ := At.z6 HC.out.zer.at0
      have lz := HC.out.zer.lt
      have fz := HC.out.zer.free
      go_wp2_with fail
      clear c0 c1 c2 c3 c4 c5 z0 z1 z2 z3 z4 z5
      have hF := set6_blk HC.out.zer (.int .i64 K) (.bool b) (.int .i64 n) (.string s) (.slice A3 k c3_) (.slice A2 nk cK2)
      obtain ⟨c0, c1, c2, c3, c4, c5⟩ := At.z6 hF.at0
      unfold set6 at c0 c1 c2 c3 c4 c5
      refine bodyPost_ret (v := .agg #[.int .i64 K, .bool b, .int .i64 n, .string s, .slice A3 k c3_, .slice A2 nk cK2]) (by simp [results, Tryd.results31, go_sem, c0, c1, c2, c3, c4, c5]) rfl ?_
      have b6 := set6_below (w := wo) (n := w.heap.size) (b := bb + 1) (by have := HBE.out; omega) (.int .i64 K) (.bool b) (.int .i64 n) (.string s) (.slice A3 k c3_) (.slice A2 nk cK2)
      have g6 := set6_grown wo (bb + 1) (.int .i64 K) (.bool b) (.int .i64 n) (.string s) (.slice A3 k c3_) (.slice A2 nk cK2)
      have hd := HC.out.done HLK.out.2 HKL.out g6
      unfold set6 at b6 hd
      refine ⟨.mk K b n s A3 c3_ lk A2 cK2 ks, by rw [T.cells, HLK.out.2, HKL.out], ?_, by rw [HBE.out]; exact hd, ⟨hst.below.trans b6⟩⟩
      rw [T.j, HLK.out.1, ← HL.out, ← HR.out]
      have : (T.js l).length = l.length := by rw [js_map, List.length_map]
      rw [← this, List.take_length]
end Go.Proofs.YtoibfefalflooaaDoor
