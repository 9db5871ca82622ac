/-
  The document's parser: a list.
-/
import Derived.Test.YtoibfefalflooaaDoorF6
namespace Go.Proofs.YtoibfefalflooaaDoor
open Go.RowKit

theorem grown_of_below_ {w w' : World} (h : Below w.heap.size w w') : w.grownBy w' none := ⟨h.os, h.tape, h.output, h.size, fun j hj _ => h.block j hj⟩
theorem white_idem (s : ByteArray) (i : Nat) : whiteE s (whiteE s i) = whiteE s i := by
  by_cases h : i ≤ s.size
  · have key : ∀ n i, s.size - i = n → i ≤ s.size → whiteE s (whiteE s i) = whiteE s i := by
      intro n
      induction n with
      | zero =>
        intro i hn hi
        have hb := white_bd hi
        rw [show whiteE s i = i by omega]
        rw [show whiteE s i = i by omega]
      | succ n ih =>
        intro i hn hi
        cases hw : isW (bA s i) with
        | false => rw [white_no hw, white_no hw]
        | true => rw [white_yes hw]; exact ih (i + 1) (by omega) (by omega)
    exact key _ i rfl h
  · have : whiteE s i = i := by unfold whiteE; rw [show s.size - i = 0 by omega]; rfl
    rw [this, this]
/-- A list or an object under way, in its own blocks. -/
structure DCo (g : Nat) (s : ByteArray) (bb : Nat) (K : Int) (w wr : World) (k : Nat) (cd : Int) (l : List T) (ks : List ByteArray) (A : Option Addr) (c nl : Nat) (AK : Option Addr) (cK nk : Nat) : Prop where
  blk : Blk wr (bb + 1) 25 [.int .i64 K, .bool false, .int .i64 0, .string ⟨#[]⟩, .slice A nl c, .slice AK nk cK]
  ol : Own wr (bb + 2) 25 6 (.slice A nl c) (l.map T.cells)
  ok : Own wr (bb + 2) 9 1 (.slice AK nk cK) (strCells ks)
  zer : Blk wr bb 25 zeroC
  pr : Dp wr g s k cd
  mvd : Mv g w wr
  size : bb + 2 ≤ wr.heap.size
  hg : g < bb
  hw : w.heap.size = bb
/-- Numbers that a part's blocks may have. -/
def okD (bb : Nat) (A AK : Option Addr) (q : Nat) : Prop := bb + 2 ≤ q ∧ ob A ≠ some q ∧ ob AK ≠ some q
section
variable {g : Nat} {s : ByteArray} {bb : Nat} {K : Int} {w w1 w2 : World} {k : Nat} {cd : Int} {l : List T} {ks : List ByteArray} {A : Option Addr} {c nl : Nat} {AK : Option Addr} {cK nk : Nat}
theorem DCo.mv (h : DCo g s bb K w w1 k cd l ks A c nl AK cK nk) (hm : Mv g w1 w2) {k2 : Nat} {cd2 : Int} (hp : Dp w2 g s k2 cd2) : DCo g s bb K w w2 k2 cd2 l ks A c nl AK cK nk := by
  obtain ⟨h1, h2, h3, h5, h7, h8, h9, h10, h11⟩ := h
  refine ⟨h1.grown hm (by intro e; injection e with e; omega), h2.grown_other hm (fun q e e2 => ?_), h3.grown_other hm (fun q e e2 => ?_), h5.grown hm (by intro e; injection e with e; omega), hp, grown_trans h8 hm, Nat.le_trans h9 hm.size, h10, h11⟩
  · have := (h2.lt q e).1; injection e2 with e2; omega
  · have := (h3.lt q e).1; injection e2 with e2; omega
theorem DCo.step (h : DCo g s bb K w w1 k cd l ks A c nl AK cK nk) [hs : Fut w1 w2] : DCo g s bb K w w2 k cd l ks A c nl AK cK nk := h.mv (Mv.of_step ⟨hs.below⟩) (h.pr.fut)
theorem DTs.mv (h : DCo g s bb K w w1 k cd l ks A c nl AK cK nk) (ht : TAts w1 (okD bb A AK) l) (hm : Mv g w1 w2) : TAts w2 (okD bb A AK) l :=
  TAts.grown hm (fun q e e2 => by have := e.1; have := h.hg; injection e2 with e2; omega) ht
theorem DTs.step (h : DCo g s bb K w w1 k cd l ks A c nl AK cK nk) (ht : TAts w1 (okD bb A AK) l) [hs : Fut w1 w2] : TAts w2 (okD bb A AK) l := DTs.mv h ht (Mv.of_step ⟨hs.below⟩)
theorem DCo.fresh (h : DCo g s bb K w w1 k cd l ks A c nl AK cK nk) {q : Nat} (hq : w1.heap.size ≤ q) : okD bb A AK q :=
  ⟨Nat.le_trans h.size hq, fun e => by have := (h.ol.lt q (by rw [ob_eq]; exact e)).2; omega, fun e => by have := (h.ok.lt q (by rw [ob_eq]; exact e)).2; omega⟩
theorem DCo.addL (h : DCo g s bb K w w1 k cd l ks A c nl AK cK nk) {y : List Value} {t : T} (hy : y = t.cells) {A2 : Option Addr} {c2 : Nat}
    (hg : w1.grownBy w2 (Value.slice A nl c).ownBlock) (ho : Own w2 (bb + 2) 25 6 (.slice A2 (nl + 1) c2) (l.map T.cells ++ [y])) :
    DCo g s bb K w (w2.setCell ⟨bb + 1, 4, none⟩ (.slice A2 (nl + 1) c2)) k cd (l ++ [t]) ks A2 c2 (nl + 1) AK cK nk := by
  subst hy
  obtain ⟨h1, h2, h3, h5, h7, h8, h9, h10, h11⟩ := h
  have hbase : ∀ q, (Value.slice A nl c).ownBlock = some q → bb + 2 ≤ q := fun q e => (h2.lt q e).1
  have hlow : ∀ q, q < bb + 2 → some q ≠ (Value.slice A nl c).ownBlock := fun q hq e => by have := hbase q e.symm; omega
  have hset := grown_setCell w2 (bb + 1) 4 (.slice A2 (nl + 1) c2)
  refine ⟨(h1.grown hg (hlow _ (by omega))).set_ 4 _, ?_, ?_, ?_, ?_, ?_, ?_, h10, h11⟩
  · rw [List.map_append]
    exact ho.grown_other hset (fun q e e2 => by have := (ho.lt q e).1; injection e2 with e2; omega)
  · exact (h3.grown_other hg (own_apart h3 h2 (by decide))).grown_other hset (fun q e e2 => by have := (h3.lt q e).1; injection e2 with e2; omega)
  · exact (h5.grown hg (hlow _ (by omega))).grown hset (by intro e; injection e with e; omega)
  · exact (Blk.grown h7 hg (hlow _ (by omega))).grown hset (by intro e; injection e with e; omega)
  · exact (Mv.down h8 ((below_of_grown h2 hg h9).mono (by omega))).down (by rw [h11]; exact (Below.refl _ _).setCell (p := ⟨bb + 1, 4, none⟩) (by simp) _)
  · exact Nat.le_trans (Nat.le_trans h9 hg.size) hset.size
theorem DTs.addL (_h : DCo g s bb K w w1 k cd l ks A c nl AK cK nk) (hl : TAts w1 (okD bb A AK) l) {t : T} {A2 : Option Addr} {c2 : Nat} (ht : TAt w1 (okD bb A AK) t)
    (hg : w1.grownBy w2 (Value.slice A nl c).ownBlock) (hA : ob A2 = (Value.slice A nl c).ownBlock ∨ ob A2 = some w1.heap.size) :
    TAts (w2.setCell ⟨bb + 1, 4, none⟩ (.slice A2 (nl + 1) c2)) (okD bb A2 AK) (l ++ [t]) := by
  have hset := grown_setCell w2 (bb + 1) 4 (.slice A2 (nl + 1) c2)
  have hok : ∀ q, okD bb A AK q ∧ q < w1.heap.size → okD bb A2 AK q := fun q hq => ⟨hq.1.1, fun e => by
    rcases hA with e1 | e1
    · rw [e1, ob_eq] at e; exact hq.1.2.1 e
    · rw [e1] at e; injection e with e; omega, hq.1.2.2⟩
  have hrow : ∀ q, okD bb A AK q ∧ q < w1.heap.size → (Value.slice A nl c).ownBlock ≠ some q := fun q hq e => hq.1.2.1 (by rw [← ob_eq A nl c]; exact e)
  have hrow2 : ∀ q, okD bb A2 AK q → some (bb + 1) ≠ some q := fun q hq e => by have := hq.1; injection e with e; omega
  have hl4 := TAts.grown hset hrow2 (TAts.weak hok (TAts.grown hg hrow (TAts.lt hl)))
  have ht4 := TAt.grown hset hrow2 (TAt.weak hok (TAt.grown hg hrow (TAt.lt ht)))
  exact hl4.app ht4
theorem DCo.addK (h : DCo g s bb K w w1 k cd l ks A c nl AK cK nk) {t : ByteArray} {A2 : Option Addr} {c2 : Nat}
    (hg : w1.grownBy w2 (Value.slice AK nk cK).ownBlock) (ho : Own w2 (bb + 2) 9 1 (.slice A2 (nk + 1) c2) (strCells ks ++ [[.string t]])) :
    DCo g s bb K w (w2.setCell ⟨bb + 1, 5, none⟩ (.slice A2 (nk + 1) c2)) k cd l (ks ++ [t]) A c nl A2 c2 (nk + 1) := by
  obtain ⟨h1, h2, h3, h5, h7, h8, h9, h10, h11⟩ := h
  have hbase : ∀ q, (Value.slice AK nk cK).ownBlock = some q → bb + 2 ≤ q := fun q e => (h3.lt q e).1
  have hlow : ∀ q, q < bb + 2 → some q ≠ (Value.slice AK nk cK).ownBlock := fun q hq e => by have := hbase q e.symm; omega
  have hset := grown_setCell w2 (bb + 1) 5 (.slice A2 (nk + 1) c2)
  refine ⟨(h1.grown hg (hlow _ (by omega))).set_ 5 _, ?_, ?_, ?_, ?_, ?_, ?_, h10, h11⟩
  · exact (h2.grown_other hg (own_apart h2 h3 (by decide))).grown_other hset (fun q e e2 => by have := (h2.lt q e).1; injection e2 with e2; omega)
  · unfold strCells at ho ⊢
    rw [List.map_append]
    exact ho.grown_other hset (fun q e e2 => by have := (ho.lt q e).1; injection e2 with e2; omega)
  · exact (h5.grown hg (hlow _ (by omega))).grown hset (by intro e; injection e with e; omega)
  · exact (Blk.grown h7 hg (hlow _ (by omega))).grown hset (by intro e; injection e with e; omega)
  · exact (Mv.down h8 ((below_of_grown h3 hg h9).mono (by omega))).down (by rw [h11]; exact (Below.refl _ _).setCell (p := ⟨bb + 1, 5, none⟩) (by simp) _)
  · exact Nat.le_trans (Nat.le_trans h9 hg.size) hset.size
theorem DTs.addK (_h : DCo g s bb K w w1 k cd l ks A c nl AK cK nk) (hl : TAts w1 (okD bb A AK) l) {A2 : Option Addr} {c2 : Nat}
    (hg : w1.grownBy w2 (Value.slice AK nk cK).ownBlock) (hA : ob A2 = (Value.slice AK nk cK).ownBlock ∨ ob A2 = some w1.heap.size) :
    TAts (w2.setCell ⟨bb + 1, 5, none⟩ (.slice A2 (nk + 1) c2)) (okD bb A A2) l := by
  have hset := grown_setCell w2 (bb + 1) 5 (.slice A2 (nk + 1) c2)
  have hok : ∀ q, okD bb A AK q ∧ q < w1.heap.size → okD bb A A2 q := fun q hq => ⟨hq.1.1, hq.1.2.1, fun e => by
    rcases hA with e1 | e1
    · rw [e1, ob_eq] at e; exact hq.1.2.2 e
    · rw [e1] at e; injection e with e; omega⟩
  have hrow : ∀ q, okD bb A AK q ∧ q < w1.heap.size → (Value.slice AK nk cK).ownBlock ≠ some q := fun q hq e => hq.1.2.2 (by rw [← ob_eq AK nk cK]; exact e)
  have hrow2 : ∀ q, okD bb A A2 q → some (bb + 1) ≠ some q := fun q hq e => by have := hq.1; injection e with e; omega
  exact TAts.grown hset hrow2 (TAts.weak hok (TAts.grown hg hrow (TAts.lt hl)))
theorem dn_ok (h : DCo g s bb K w w1 k 0 l ks A c nl AK cK nk) (ht : TAts w1 (okD bb A AK) l) (hl : l.length = nl) (hk : ks.length = nk) (hks : k ≤ s.size) :
    ValD bb g s (.ok (.mk K false 0 ⟨#[]⟩ (T.js l) ks, k)) (.returned (.agg #[.int .i64 K, .bool false, .int .i64 0, .string ⟨#[]⟩, .slice A nl c, .slice AK nk cK])) (set6 w1 bb (.int .i64 K) (.bool false) (.int .i64 0) (.string ⟨#[]⟩) (.slice A nl c) (.slice AK nk cK)) ∧ Mv g w (set6 w1 bb (.int .i64 K) (.bool false) (.int .i64 0) (.string ⟨#[]⟩) (.slice A nl c) (.slice AK nk cK)) := by
  obtain ⟨h1, h2, h3, h5, h7, h8, h9, h10, h11⟩ := h
  have hset := set6_grown w1 bb (.int .i64 K) (.bool false) (.int .i64 0) (.string ⟨#[]⟩) (.slice A nl c) (.slice AK nk cK)
  subst hl hk
  refine ⟨⟨.mk K false 0 ⟨#[]⟩ A c l AK cK ks, rfl, rfl, ?_, set6_far h7 (by omega) _ _ _ _ _ _, hks⟩, h8.down (set6_below (by omega) _ _ _ _ _ _)⟩
  rw [TAt]
  refine ⟨own_zero (h2.grown_other hset (fun q e e2 => ?_)), own_zero (h3.grown_other hset (fun q e e2 => ?_)), fun q e => ?_, fun q e => ?_, TAts.weak (fun q hq => by have := hq.1; omega) (TAts.grown hset (fun q e e2 => ?_) ht)⟩
  · have := (h2.lt q e).1; injection e2 with e2; omega
  · have := (h3.lt q e).1; injection e2 with e2; omega
  · have := (h2.lt q (by rw [ob_eq]; exact e)).1; omega
  · have := (h3.lt q (by rw [ob_eq]; exact e)).1; omega
  · have := e.1; injection e2 with e2; omega
theorem dn_bad (h : DCo g s bb K w w1 k cd l ks A c nl AK cK nk) (hl : l.length = nl) (hk : ks.length = nk) (hks : k ≤ s.size) (hc : cd ≠ 0) :
    ValD bb g s (.error cd) (.returned (.agg #[.int .i64 K, .bool false, .int .i64 0, .string ⟨#[]⟩, .slice A nl c, .slice AK nk cK])) (set6 w1 bb (.int .i64 K) (.bool false) (.int .i64 0) (.string ⟨#[]⟩) (.slice A nl c) (.slice AK nk cK)) ∧ Mv g w (set6 w1 bb (.int .i64 K) (.bool false) (.int .i64 0) (.string ⟨#[]⟩) (.slice A nl c) (.slice AK nk cK)) := by
  obtain ⟨h1, h2, h3, h5, h7, h8, h9, h10, h11⟩ := h
  subst hl hk
  exact ⟨⟨.mk K false 0 ⟨#[]⟩ A c l AK cK ks, k, rfl, set6_far h7 (by omega) _ _ _ _ _ _, hks, hc⟩, h8.down (set6_below (by omega) _ _ _ _ _ _)⟩
theorem DCo.new (w : World) (h : Dp w g s k cd) (K : Int) : DCo g s w.heap.size K w ((w.alloc (.cells #[.int .i64 0, .bool false, .int .i64 0, .string ⟨#[]⟩, .slice none 0 0, .slice none 0 0] 25)).alloc (.cells #[.int .i64 K, .bool false, .int .i64 0, .string ⟨#[]⟩, .slice none 0 0, .slice none 0 0] 25)) k cd [] [] none 0 0 none 0 0 :=
  ⟨Blk.new_at (b := w.heap.size + 1) (by simp) [.int .i64 K, .bool false, .int .i64 0, .string ⟨#[]⟩, .slice none 0 0, .slice none 0 0] 25, Own.nil_ _ _ _ _, Own.nil_ _ _ _ _, (Blk.new w zeroC 25).alloc _, (h.alloc _).alloc _, Mv.of_step (w := w) Step.of, by simp, h.lt, rfl⟩
end
theorem msr_z {w : World} {g : Nat} {s : ByteArray} {i : Nat} {c : Int} (h : Dp w g s i c) (hc : 0 < c) : msrD s g w = 0 := by
  unfold msrD
  rw [(At.z3 h.at0).2.2, if_neg (by show ¬ c.toNat = 0; omega)]
/-- The contract of a value, deep within. -/
def VALD (g : Nat) (s : ByteArray) (dp : Int) (val : Nat → Except Int (J × Nat)) : Prop := ∀ (k : Nat) (w' : World), Dp w' g s k 0 → k ≤ s.size →
  Calls Tryd.prog 25 #[.pointer (some ⟨g, 0, none⟩), .int .i64 dp] w' fun e w'' => ValD w'.heap.size g s (val k) e w'' ∧ Mv g w' w''
def ValC (B g : Nat) (s : ByteArray) (r : Except Int (J × Nat)) (w' : World) (t : T) : Prop :=
  match r with
  | .ok (j, i) => T.j t = j ∧ TAt w' (fun k => B ≤ k) t ∧ Dp w' g s i 0 ∧ i ≤ s.size
  | .error c => ∃ i, Dp w' g s i c ∧ i ≤ s.size ∧ c ≠ 0
/-- .. by the cells of what it says. -/
theorem vald_cells {B g : Nat} {s : ByteArray} {r : Except Int (J × Nat)} {e : Ending} {w' : World} (h : ValD B g s r e w') : ∃ (vk : Int) (vb : Bool) (vn : Int) (vs : ByteArray) (vA : Option Addr) (vc vnl : Nat) (vl : List T) (vAK : Option Addr) (vcK vnk : Nat) (vks : List ByteArray), e = .returned (.agg #[.int .i64 vk, .bool vb, .int .i64 vn, .string vs, .slice vA vnl vc, .slice vAK vnk vcK]) ∧ Hid (vl.length = vnl ∧ vks.length = vnk) ∧ ValC B g s r w' (T.mk vk vb vn vs vA vc vl vAK vcK vks) := by
  cases r with
  | ok p =>
    obtain ⟨t, h1, h2, h3, h4, h5⟩ := h
    cases t with
    | mk vk vb vn vs vA vc vl vAK vcK vks => exact ⟨vk, vb, vn, vs, vA, vc, _, vl, vAK, vcK, _, vks, h1, ⟨rfl, rfl⟩, h2, h3, h4, h5⟩
  | error c =>
    obtain ⟨t, i, h1, h2, h3, h4⟩ := h
    cases t with
    | mk vk vb vn vs vA vc vl vAK vcK vks => exact ⟨vk, vb, vn, vs, vA, vc, _, vl, vAK, vcK, _, vks, h1, ⟨rfl, rfl⟩, i, h2, h3, h4⟩

set_option maxRecDepth 100000 in
set_option maxHeartbeats 16000000 in
theorem dlist_deep (g : Nat) (s : ByteArray) (i : Nat) (dp : Int) (hdp : dp > 16) (w : World) (h : Dp w g s i 0) (hi : i ≤ s.size) :
    Calls Tryd.prog 39 #[.pointer (some ⟨g, 0, none⟩), .int .i64 dp] w fun e w' => ValD w.heap.size g s (.error 301) e w' ∧ Mv g w w' := by
  have HC0 := hide (DCo.new w h 4)
  clear h
  obtain ⟨r, hr⟩ : ∃ r : Except Int (J × Nat), r = .error 301 := ⟨_, rfl⟩
  rw [← hr]
  have HR := hide hr
  clear hr
  go_enter Tryd.func39, Tryd.ntmps39
  go_upto_region 2 with fail
  obtain ⟨W0, hW0⟩ : ∃ x : World, x = ((w.alloc (.cells #[.int .i64 0, .bool false, .int .i64 0, .string ⟨#[]⟩, .slice none 0 0, .slice none 0 0] 25)).alloc (.cells #[.int .i64 4, .bool false, .int .i64 0, .string ⟨#[]⟩, .slice none 0 0, .slice none 0 0] 25)) := ⟨_, rfl⟩
  rw [← hW0] at HC0
  rw [← hW0]
  clear hW0
  obtain ⟨bb, hbb⟩ : ∃ n, w.heap.size = n := ⟨_, rfl⟩
  rw [hbb] at HC0
  rw [hbb]
  have HBE := hide hbb
  clear hbb
  have FL := hide (fun w' (hp : Dp w' g s i 0) => dfail_any g s i 301 w' hp)
  go_upto_region 4 with ((go_at_call 26; go_loud (with_reducible refine (FL.out _ HC0.out.pr).mono ?_); rintro e w1 ⟨rfl, hp_, hm_⟩; have HC1 := hide (HC0.out.mv hm_ hp_); clear hp_ hm_))
  obtain ⟨z0, z1, z2, z3, z4, z5⟩ := At.z6 HC1.out.zer.at0
  have lz := HC1.out.zer.lt
  have fz := HC1.out.zer.free
  obtain ⟨c0, c1, c2, c3, c4, c5⟩ := At.z6 HC1.out.blk.at0; have lc := HC1.out.blk.lt; have fc := HC1.out.blk.free
  go_wp2_with fail
  clear z0 z1 z2 z3 z4 z5 c0 c1 c2 c3 c4 c5
  have hF := set6_blk HC1.out.zer (.int .i64 4) (.bool false) (.int .i64 0) (.string ⟨#[]⟩) (.slice none 0 0) (.slice none 0 0)
  obtain ⟨c0, c1, c2, c3, c4, c5⟩ := At.z6 hF.at0
  have hD := dn_bad HC1.out rfl rfl hi (by decide)
  obtain ⟨Y, hY⟩ : ∃ Y : World, Y = set6 w1 bb (.int .i64 4) (.bool false) (.int .i64 0) (.string ⟨#[]⟩) (.slice none 0 0) (.slice none 0 0) := ⟨_, rfl⟩
  rw [← hY] at hD c0 c1 c2 c3 c4 c5
  unfold set6 at hY
  rw [← hY]
  clear hY hF
  refine bodyPost_ret (v := .agg #[.int .i64 4, .bool false, .int .i64 0, .string ⟨#[]⟩, .slice none 0 0, .slice none 0 0]) (by simp [results, Tryd.results39, go_sem, c0, c1, c2, c3, c4, c5]) rfl ?_
  exact ⟨by rw [HR.out, HBE.out]; exact hD.1, hD.2⟩
set_option maxRecDepth 100000 in
set_option maxHeartbeats 16000000 in
theorem dlist_ok (g : Nat) (s : ByteArray) (i : Nat) (dp : Int) (hdp : ¬ dp > 16) (val : Nat → Except Int (J × Nat)) (hv : ∀ i j k, val i = .ok (j, k) → i < k) (HV : VALD g s dp val) (hve : ∀ i c, val i = .error c → 0 < c)
    (w : World) (h : Dp w g s i 0) (hi : i < s.size) (hs : s.size ≤ 65536) :
    Calls Tryd.prog 39 #[.pointer (some ⟨g, 0, none⟩), .int .i64 dp] w fun e w' => ValD w.heap.size g s (innP val s false i) e w' ∧ Mv g w w' := by
  have HC0 := hide (DCo.new w h 4)
  have hlb := h.lt
  have HVV := hide HV
  have HVG := hide hv
  have HVE := hide hve
  have WH := hide (fun (k : Nat) (cd : Int) (hk : k ≤ s.size) w' (hp : Dp w' g s k cd) => dwhite_any g s k cd w' hp hk hs)
  have WB := hide (fun (k : Nat) (hk : k ≤ s.size) w' (hp : Dp w' g s k 0) => dword_any g s ⟨#[93]⟩ k 0 (decide (bA s k = 93)) w' hp hk (word_one 93 (by decide)) hs (by decide))
  have WC := hide (fun (k : Nat) (hk : k ≤ s.size) w' (hp : Dp w' g s k 0) => dword_any g s ⟨#[44]⟩ k 0 (decide (bA s k = 44)) w' hp hk (word_one 44 (by decide)) hs (by decide))
  have FL := hide (fun (k : Nat) w' (hp : Dp w' g s k 0) => dfail_any g s k 300 w' hp)
  obtain ⟨r, hr⟩ : ∃ r, innP val s false i = r := ⟨_, rfl⟩
  obtain ⟨R, hR⟩ : ∃ R, elemsP val s false (s.size + 1) (whiteE s (i + 1)) true [] [] = R := ⟨_, rfl⟩
  have HRR : Hid (r = outJ 4 R) := by show _ = _; rw [← hr, inn_out, hR]; rfl
  have HT := hide hR
  rw [hr]
  clear h hr hR HV hv hve
  obtain ⟨hw0, hw1⟩ := white_bd (s := s) (i := i + 1) (by omega)
  have hwi := white_idem s (i + 1)
  obtain ⟨k1, hk1⟩ : ∃ k1, whiteE s (i + 1) = k1 := ⟨_, rfl⟩
  have HK1 := hide hk1
  rw [hk1] at HT hw0 hw1 hwi
  have HWI := hide hwi
  clear hk1 hwi
  go_enter Tryd.func39, Tryd.ntmps39
  go_upto_region 2 with fail
  obtain ⟨W0, hW0⟩ : ∃ x : World, x = ((w.alloc (.cells #[.int .i64 0, .bool false, .int .i64 0, .string ⟨#[]⟩, .slice none 0 0, .slice none 0 0] 25)).alloc (.cells #[.int .i64 4, .bool false, .int .i64 0, .string ⟨#[]⟩, .slice none 0 0, .slice none 0 0] 25)) := ⟨_, rfl⟩
  rw [← hW0] at HC0
  rw [← hW0]
  clear hW0
  obtain ⟨bb, hbb⟩ : ∃ n, w.heap.size = n := ⟨_, rfl⟩
  rw [hbb] at HC0 hlb
  rw [hbb]
  have HBE := hide hbb
  clear hbb
  obtain ⟨q0, q1, q2⟩ := At.z3 HC0.out.pr.at0; have lq := HC0.out.pr.lt; have fq := HC0.out.pr.free
  have hi1 : i + 1 ≤ s.size := by omega
  go_upto_region 6 with fail
  have HPP : Hid (Dp (W0.setCell ⟨g, 1, none⟩ (.int .i64 ((i : Int) + 1))) g s (i + 1) 0) := Dp.put HC0.out.pr (by omega)
  have HCP := hide (HC0.out.mv (grown_setCell W0 g 1 (.int .i64 ((i : Int) + 1))) HPP.out)
  obtain ⟨X, hX⟩ : ∃ x : World, x = W0.setCell ⟨g, 1, none⟩ (.int .i64 ((i : Int) + 1)) := ⟨_, rfl⟩
  rw [← hX] at HCP
  rw [← hX]
  clear hX q0 q1 q2 lq fq HPP
  by_cases h93 : bA s k1 = 93
  · have HR : Hid (r = .ok (.mk 4 false 0 ⟨#[]⟩ [] [], k1 + 1)) := by show _ = _; rw [HRR.out, ← HT.out, el_end (by rw [h93]; rfl)]; rfl
    have hk1s : k1 < s.size := bA_lt (by omega)
    have XWB1 := WB.out k1 hw1
    rw [decide_eq_true h93] at XWB1
    have WB1 : Hid (∀ w', Dp w' g s k1 0 → Calls Tryd.prog 37 #[.pointer (some ⟨g, 0, none⟩), .string ⟨#[93]⟩] w' fun e w'' => e = .returned (.bool true) ∧ Dp w'' g s (k1 + 1) 0 ∧ Mv g w' w'') := XWB1
    clear XWB1
    clear WB h93
    go_upto_region 8 with (first | (go_at_call 24; go_loud (with_reducible refine (WH.out (i + 1) 0 hi1 _ HCP.out.pr).mono ?_); rintro e w1 ⟨rfl, hp0, hm_⟩; have hp_ := hp0; rw [HK1.out] at hp_; have HC1 := hide (HCP.out.mv hm_ hp_); clear hp_ hp0 hm_) | (go_at_call 37; go_loud (with_reducible refine (WB1.out _ HC1.out.pr).mono ?_); rintro e w2 ⟨rfl, hp_, hm_⟩; have HC2 := hide (HC1.out.mv hm_ hp_); clear hp_ hm_))
    obtain ⟨z0, z1, z2, z3, z4, z5⟩ := At.z6 HC2.out.zer.at0
    have lz := HC2.out.zer.lt
    have fz := HC2.out.zer.free
    obtain ⟨c0, c1, c2, c3, c4, c5⟩ := At.z6 HC2.out.blk.at0; have lc := HC2.out.blk.lt; have fc := HC2.out.blk.free
    go_wp2_with fail
    clear z0 z1 z2 z3 z4 z5 c0 c1 c2 c3 c4 c5
    have hF := set6_blk HC2.out.zer (.int .i64 4) (.bool false) (.int .i64 0) (.string ⟨#[]⟩) (.slice none 0 0) (.slice none 0 0)
    obtain ⟨c0, c1, c2, c3, c4, c5⟩ := At.z6 hF.at0
    have hD := dn_ok HC2.out (by rw [TAts]; trivial) rfl rfl (by omega)
    obtain ⟨Y, hY⟩ : ∃ Y : World, Y = set6 w2 bb (.int .i64 4) (.bool false) (.int .i64 0) (.string ⟨#[]⟩) (.slice none 0 0) (.slice none 0 0) := ⟨_, rfl⟩
    rw [← hY] at hD c0 c1 c2 c3 c4 c5
    unfold set6 at hY
    rw [← hY]
    clear hY hF
    refine bodyPost_ret (v := .agg #[.int .i64 4, .bool false, .int .i64 0, .string ⟨#[]⟩, .slice none 0 0, .slice none 0 0]) (by simp [results, Tryd.results39, go_sem, c0, c1, c2, c3, c4, c5]) rfl ?_
    exact ⟨by rw [HR.out, HBE.out]; exact hD.1, hD.2⟩
  · have XWB1 := WB.out k1 hw1
    rw [decide_eq_false h93] at XWB1
    have WB1 : Hid (∀ w', Dp w' g s k1 0 → Calls Tryd.prog 37 #[.pointer (some ⟨g, 0, none⟩), .string ⟨#[93]⟩] w' fun e w'' => e = .returned (.bool false) ∧ Dp w'' g s k1 0 ∧ Mv g w' w'') := XWB1
    clear XWB1
    have HTS : Hid ((match val (whiteE s k1) with | .error e => .error e | .ok (j, i4) => elemsP val s false s.size (whiteE s i4) false ([] ++ [j]) []) = R) := by show _ = _; rw [HWI.out, ← HT.out, el_list h93 (by simp)]; rfl
    clear h93 HT
    go_wp2_with (first | (go_at_call 24; go_loud (with_reducible refine (WH.out (i + 1) 0 hi1 _ HCP.out.pr).mono ?_); rintro e w1 ⟨rfl, hp0, hm_⟩; have hp_ := hp0; rw [HK1.out] at hp_; have HC1 := hide (HCP.out.mv hm_ hp_); clear hp_ hp0 hm_) | (go_at_call 37; go_loud (with_reducible refine (WB1.out _ HC1.out.pr).mono ?_); rintro e w2 ⟨rfl, hp_, hm_⟩; have HC2 := hide (HC1.out.mv hm_ hp_); clear hp_ hm_))
    go_loopw [] (fun wr => (∃ (f k : Nat) (l : List T) (A : Option Addr) (c nl : Nat), i + 1 ≤ k ∧ k ≤ s.size ∧ s.size ≤ f + k ∧ Hid (l.length = nl) ∧ nl ≤ k ∧ Hid ((match val (whiteE s k) with | .error e => .error e | .ok (j, i4) => elemsP val s false f (whiteE s i4) false (T.js l ++ [j]) []) = R) ∧ DCo g s bb 4 w wr k 0 l [] A c nl none 0 0 ∧ TAts wr (okD bb A none) l) ∨ (∃ (k : Nat) (cd : Int) (l : List T) (A : Option Addr) (c nl : Nat), k ≤ s.size ∧ 0 < cd ∧ Hid (R = .error cd) ∧ Hid (l.length = nl) ∧ DCo g s bb 4 w wr k cd l [] A c nl none 0 0)) (fun wr => msrD s g wr)
    case atStart => exact .inl ⟨s.size, k1, [], none, 0, 0, hw0, hw1, by omega, rfl, by omega, HTS.out, HC2.out, by rw [TAts]; trivial⟩
    case round =>
      clear HC0 HC1 HC2 HCP
      obtain ⟨wo, rfl⟩ : ∃ x : World, x = wr := ⟨_, rfl⟩
      rcases hrel with ⟨f, k, l, A, c, nl, hik, hk, hf, HL, hnk, HTX, hco, hts⟩ | ⟨k, cd, l, A, c, nl, hk, hcd, HN, HL, hco⟩
      · have HC := hide hco; have HTS := hide hts
        obtain ⟨q0, q1, q2⟩ := At.z3 HC.out.pr.at0; have lq := HC.out.pr.lt; have fq := HC.out.pr.free
        clear hco hts
        obtain ⟨hwk0, hwk1⟩ := white_bd hk
        obtain ⟨k0, hk0e⟩ : ∃ k0, whiteE s k = k0 := ⟨_, rfl⟩
        rw [hk0e] at HTX hwk0 hwk1
        have HK0 := hide hk0e
        clear hk0e
        have HVK : Hid (∀ w', Dp w' g s k0 0 → Calls Tryd.prog 25 #[.pointer (some ⟨g, 0, none⟩), .int .i64 dp] w' fun e w'' => (∃ (vk : Int) (vb : Bool) (vn : Int) (vs : ByteArray) (vA : Option Addr) (vc vnl : Nat) (vl : List T) (vAK : Option Addr) (vcK vnk : Nat) (vks : List ByteArray), e = .returned (.agg #[.int .i64 vk, .bool vb, .int .i64 vn, .string vs, .slice vA vnl vc, .slice vAK vnk vcK]) ∧ Hid (vl.length = vnl ∧ vks.length = vnk) ∧ ValC w'.heap.size g s (val k0) w'' (T.mk vk vb vn vs vA vc vl vAK vcK vks)) ∧ Mv g w' w'') := fun w' hp => (HVV.out k0 w' hp hwk1).mono fun e w'' hh => ⟨vald_cells hh.1, hh.2⟩
        cases hvv : val k0 with
        | error ec =>
          have hec := HVE.out _ _ hvv
          have HRE : Hid (R = .error ec) := by show _ = _; rw [← HTX.out, hvv]
          rw [hvv] at HVK
          have HVK : Hid (∀ w', Dp w' g s k0 0 → Calls Tryd.prog 25 #[.pointer (some ⟨g, 0, none⟩), .int .i64 dp] w' fun e w'' => (∃ (vk : Int) (vb : Bool) (vn : Int) (vs : ByteArray) (vA : Option Addr) (vc vnl : Nat) (vl : List T) (vAK : Option Addr) (vcK vnk : Nat) (vks : List ByteArray), e = .returned (.agg #[.int .i64 vk, .bool vb, .int .i64 vn, .string vs, .slice vA vnl vc, .slice vAK vnk vcK]) ∧ Hid (vl.length = vnl ∧ vks.length = vnk) ∧
            (∃ i, Dp w'' g s i ec ∧ i ≤ s.size ∧ ec ≠ 0)) ∧ Mv g w' w'') := HVK
          clear hvv HTX
          go_upto_region 12 with (first | (go_at_call 24; go_loud (with_reducible refine (WH.out k 0 hk _ HC.out.pr).mono ?_); rintro e w3 ⟨rfl, hp0, hm_⟩; have hp_ := hp0; rw [HK0.out] at hp_; have HC3 := hide (HC.out.mv hm_ hp_); have HT3_ := hide (DTs.mv HC.out HTS.out hm_); clear hp_ hp0 hm_; clear q0 q1 q2 lq fq) | (go_at_call 25; (with_reducible refine (HVK.out _ HC3.out.pr).mono ?_); rintro e w5 ⟨⟨vk, vb, vn, vs, vA, vc, vnl, vl, vAK, vcK, vnk, vks, rfl, HVL, iE, hp_, hiE, _⟩, hm_⟩; have HC5 := hide (HC3.out.mv hm_ hp_); clear hp_ hm_))
          obtain ⟨W5, hW5⟩ : ∃ W : World, W = w5.alloc (.cells #[.int .i64 vk, .bool vb, .int .i64 vn, .string vs, .slice vA vnl vc, .slice vAK vnk vcK] 25) := ⟨_, rfl⟩
          have HJ5 : Hid (Blk W5 w5.heap.size 25 [.int .i64 vk, .bool vb, .int .i64 vn, .string vs, .slice vA vnl vc, .slice vAK vnk vcK]) := by rw [hW5]; exact Blk.new w5 _ 25
          have hs5 : Step w5 W5 := by rw [hW5]; exact Step.of
          rw [← hW5]
          clear hW5
          have HD5 := hide (HC5.out.step (w2 := W5))
          have HC6 := hide (HC5.out.step (w2 := W5.alloc (.cells #[.int .i64 vk, .bool vb, .int .i64 vn, .string vs, .slice vA vnl vc, .slice vAK vnk vcK] 25)))
          have hy : [.int .i64 vk, .bool vb, .int .i64 vn, .string vs, .slice vA vnl vc, .slice vAK vnk vcK] = T.cells (T.mk vk vb vn vs vA vc vl vAK vcK vks) := by rw [T.cells, HVL.out.1, HVL.out.2]
          have HY := hide hy
          clear hy
          obtain ⟨c0, c1, c2, c3, c4, c5⟩ := At.z6 HD5.out.blk.at0; have lc := HD5.out.blk.lt; have fc := HD5.out.blk.free
          obtain ⟨y0, y1, y2, y3, y4, y5⟩ := At.z6 HJ5.out.at0
          have ly := HJ5.out.lt
          go_upto_region 13 with (at_builtin; go_loud (refine wpList_append_slB rfl (.tmp 36) (.tmp 38) 22 rfl eiJ (base := bb + 2) (xs := l.map T.cells) rfl HC6.out.ol (tree_fit _) (ad := ⟨W5.heap.size, 0, none⟩) (c := 1) (y := [.int .i64 vk, .bool vb, .int .i64 vn, .string vs, .slice vA vnl vc, .slice vAK vnk vcK]) rfl (cells_at W5 [.int .i64 vk, .bool vb, .int .i64 vn, .string vs, .slice vA vnl vc, .slice vAK vnk vcK] 25) (by rw [HY.out]; exact tree_fit [_]) (by rw [List.length_map, HL.out]; omega) HC6.out.size (N := nl + 1) (by rw [List.length_map, HL.out]) ?_; intro A7 c7 w7 ho7 hg7 hb7 hA7; have HC8 := hide (HC6.out.addL HY.out hg7 ho7); have hb7_ := HC6.out.blk.grown hg7 (by intro e; have := (HC6.out.ol.lt _ e.symm).1; omega); clear ho7 hg7 hb7 hA7; clear c0 c1 c2 c3 c4 c5 lc fc; obtain ⟨c0, c1, c2, c3, c4, c5⟩ := At.z6 hb7_.at0; have lc := hb7_.lt; have fc := hb7_.free; clear hb7_))
          clear y0 y1 y2 y3 y4 y5 ly c0 c1 c2 c3 c4 c5 lc fc
          have hec0 : (ec == 0) = false := beq_eq_false_iff_ne.2 (by omega)
          go_wp2_with ((go_at_call 24; go_loud (with_reducible refine (WH.out iE ec hiE _ HC8.out.pr).mono ?_); rintro e w9 ⟨rfl, hp_, hm_⟩; have HC9 := hide (HC8.out.mv hm_ hp_); obtain ⟨q0, q1, q2⟩ := At.z3 HC9.out.pr.at0; have lq := HC9.out.pr.lt; have fq := HC9.out.pr.free; clear hp_ hm_))
          go_roundw
          case rel => exact .inr ⟨whiteE s iE, ec, _, A7, c7, nl + 1, (white_bd hiE).2, hec, HRE, (by show _ = _; rw [List.length_append, HL.out]; rfl), HC9.out⟩
          case measure => rw [msr_z HC9.out.pr hec, msr_ok HC.out.pr]; omega
        | ok ji =>
          obtain ⟨j, i4⟩ := ji
          have HTJ : Hid (elemsP val s false f (whiteE s i4) false (T.js l ++ [j]) [] = R) := by have := HTX.out; rw [hvv] at this; exact this
          have hgt := HVG.out _ _ _ hvv
          rw [hvv] at HVK
          have HVK : Hid (∀ w', Dp w' g s k0 0 → Calls Tryd.prog 25 #[.pointer (some ⟨g, 0, none⟩), .int .i64 dp] w' fun e w'' => (∃ (vk : Int) (vb : Bool) (vn : Int) (vs : ByteArray) (vA : Option Addr) (vc vnl : Nat) (vl : List T) (vAK : Option Addr) (vcK vnk : Nat) (vks : List ByteArray), e = .returned (.agg #[.int .i64 vk, .bool vb, .int .i64 vn, .string vs, .slice vA vnl vc, .slice vAK vnk vcK]) ∧ Hid (vl.length = vnl ∧ vks.length = vnk) ∧
            (T.j (T.mk vk vb vn vs vA vc vl vAK vcK vks) = j ∧ TAt w'' (fun k => w'.heap.size ≤ k) (T.mk vk vb vn vs vA vc vl vAK vcK vks) ∧ Dp w'' g s i4 0 ∧ i4 ≤ s.size)) ∧ Mv g w' w'') := HVK
          clear hvv HTX
          go_upto_region 12 with (first | (go_at_call 24; go_loud (with_reducible refine (WH.out k 0 hk _ HC.out.pr).mono ?_); rintro e w3 ⟨rfl, hp0, hm_⟩; have hp_ := hp0; rw [HK0.out] at hp_; have HC3 := hide (HC.out.mv hm_ hp_); have HT3_ := hide (DTs.mv HC.out HTS.out hm_); clear hp_ hp0 hm_; clear q0 q1 q2 lq fq) | (go_at_call 25; (with_reducible refine (HVK.out _ HC3.out.pr).mono ?_); rintro e w5 ⟨⟨vk, vb, vn, vs, vA, vc, vnl, vl, vAK, vcK, vnk, vks, rfl, HVL, hvj, ht5, hp_, hi4⟩, hm_⟩; have HVJ := hide hvj; have HC5 := hide (HC3.out.mv hm_ hp_); have HT3 : TAts w3 (okD bb A none) l := HT3_.out; have HT5 := hide (DTs.mv HC3.out HT3 hm_); have HTV := hide (TAt.weak (fun _ hq => HC3.out.fresh hq) ht5); clear hp_ hm_ ht5 hvj HT3))
          obtain ⟨W5, hW5⟩ : ∃ W : World, W = w5.alloc (.cells #[.int .i64 vk, .bool vb, .int .i64 vn, .string vs, .slice vA vnl vc, .slice vAK vnk vcK] 25) := ⟨_, rfl⟩
          have HJ5 : Hid (Blk W5 w5.heap.size 25 [.int .i64 vk, .bool vb, .int .i64 vn, .string vs, .slice vA vnl vc, .slice vAK vnk vcK]) := by rw [hW5]; exact Blk.new w5 _ 25
          have hs5 : Step w5 W5 := by rw [hW5]; exact Step.of
          rw [← hW5]
          clear hW5
          have HD5 := hide (HC5.out.step (w2 := W5))
          have HC6 := hide (HC5.out.step (w2 := W5.alloc (.cells #[.int .i64 vk, .bool vb, .int .i64 vn, .string vs, .slice vA vnl vc, .slice vAK vnk vcK] 25)))
          have hy : [.int .i64 vk, .bool vb, .int .i64 vn, .string vs, .slice vA vnl vc, .slice vAK vnk vcK] = T.cells (T.mk vk vb vn vs vA vc vl vAK vcK vks) := by rw [T.cells, HVL.out.1, HVL.out.2]
          have HY := hide hy
          clear hy
          obtain ⟨c0, c1, c2, c3, c4, c5⟩ := At.z6 HD5.out.blk.at0; have lc := HD5.out.blk.lt; have fc := HD5.out.blk.free
          obtain ⟨y0, y1, y2, y3, y4, y5⟩ := At.z6 HJ5.out.at0
          have ly := HJ5.out.lt
          go_upto_region 13 with (at_builtin; go_loud (refine wpList_append_slB rfl (.tmp 36) (.tmp 38) 22 rfl eiJ (base := bb + 2) (xs := l.map T.cells) rfl HC6.out.ol (tree_fit _) (ad := ⟨W5.heap.size, 0, none⟩) (c := 1) (y := [.int .i64 vk, .bool vb, .int .i64 vn, .string vs, .slice vA vnl vc, .slice vAK vnk vcK]) rfl (cells_at W5 [.int .i64 vk, .bool vb, .int .i64 vn, .string vs, .slice vA vnl vc, .slice vAK vnk vcK] 25) (by rw [HY.out]; exact tree_fit [_]) (by rw [List.length_map, HL.out]; omega) HC6.out.size (N := nl + 1) (by rw [List.length_map, HL.out]) ?_; intro A7 c7 w7 ho7 hg7 hb7 hA7; have HC8 := hide (HC6.out.addL HY.out hg7 ho7); have HT6 : TAts (W5.alloc (.cells #[.int .i64 vk, .bool vb, .int .i64 vn, .string vs, .slice vA vnl vc, .slice vAK vnk vcK] 25)) (okD bb A none) l := DTs.step HC5.out HT5.out; have HTV6 : TAt (W5.alloc (.cells #[.int .i64 vk, .bool vb, .int .i64 vn, .string vs, .slice vA vnl vc, .slice vAK vnk vcK] 25)) (okD bb A none) (T.mk vk vb vn vs vA vc vl vAK vcK vks) := TAt.grown (row := none) (grown_of_below_ (fut w5 (W5.alloc (.cells #[.int .i64 vk, .bool vb, .int .i64 vn, .string vs, .slice vA vnl vc, .slice vAK vnk vcK] 25)))) (fun q _ e => by cases e) HTV.out; have HT8 := hide (DTs.addL (c2 := c7) HC6.out HT6 HTV6 hg7 hA7); clear HT6 HTV6; have hb7_ := HC6.out.blk.grown hg7 (by intro e; have := (HC6.out.ol.lt _ e.symm).1; omega); clear ho7 hg7 hb7 hA7; clear c0 c1 c2 c3 c4 c5 lc fc; obtain ⟨c0, c1, c2, c3, c4, c5⟩ := At.z6 hb7_.at0; have lc := hb7_.lt; have fc := hb7_.free; clear hb7_))
          clear y0 y1 y2 y3 y4 y5 ly c0 c1 c2 c3 c4 c5 lc fc
          have hwb := white_bd hi4
          obtain ⟨k2, hk2e⟩ : ∃ k2, whiteE s i4 = k2 := ⟨_, rfl⟩
          rw [hk2e] at hwb HTJ
          have HK2 := hide hk2e
          clear hk2e
          obtain ⟨hwb1, hwb2⟩ := hwb
          obtain ⟨f, rfl⟩ : ∃ q, f = q + 1 := ⟨f - 1, by omega⟩
          have HLN : Hid ((l ++ [(T.mk vk vb vn vs vA vc vl vAK vcK vks)]).length = nl + 1) := by show _ = _; rw [List.length_append, HL.out]; rfl
          have HJS : Hid (T.js (l ++ [(T.mk vk vb vn vs vA vc vl vAK vcK vks)]) = T.js l ++ [j]) := by show _ = _; rw [js_app, T.js, T.js, HVJ.out]
          by_cases he93 : bA s k2 = 93
          · have hk2s : k2 < s.size := bA_lt (by omega)
            have HR : Hid (r = .ok (.mk 4 false 0 ⟨#[]⟩ (T.js (l ++ [(T.mk vk vb vn vs vA vc vl vAK vcK vks)])) [], k2 + 1)) := by show _ = _; rw [HRR.out, ← HTJ.out, el_end (by rw [he93]; rfl), HJS.out]; rfl
            have XWB2 := WB.out k2 hwb2
            rw [decide_eq_true he93] at XWB2
            have WB2 : Hid (∀ w', Dp w' g s k2 0 → Calls Tryd.prog 37 #[.pointer (some ⟨g, 0, none⟩), .string ⟨#[93]⟩] w' fun e w'' => e = .returned (.bool true) ∧ Dp w'' g s (k2 + 1) 0 ∧ Mv g w' w'') := XWB2
            clear XWB2
            clear he93
            go_upto_region 15 with (first | (go_at_call 24; go_loud (with_reducible refine (WH.out i4 0 hi4 _ HC8.out.pr).mono ?_); rintro e w9 ⟨rfl, hp0, hm_⟩; have hp_ := hp0; rw [HK2.out] at hp_; have HC9 := hide (HC8.out.mv hm_ hp_); have HT9 := hide (DTs.mv HC8.out HT8.out hm_); obtain ⟨q0, q1, q2⟩ := At.z3 HC9.out.pr.at0; have lq := HC9.out.pr.lt; have fq := HC9.out.pr.free; clear hp_ hp0 hm_) | (go_at_call 37; go_loud (with_reducible refine (WB2.out _ HC9.out.pr).mono ?_); rintro e wB ⟨rfl, hp_, hm_⟩; have HCB := hide (HC9.out.mv hm_ hp_); have HTB := hide (DTs.mv HC9.out HT9.out hm_); clear hp_ hm_))
            obtain ⟨z0, z1, z2, z3, z4, z5⟩ := At.z6 HCB.out.zer.at0
            have lz := HCB.out.zer.lt
            have fz := HCB.out.zer.free
            obtain ⟨c0, c1, c2, c3, c4, c5⟩ := At.z6 HCB.out.blk.at0; have lc := HCB.out.blk.lt; have fc := HCB.out.blk.free
            go_wp2_with fail
            clear z0 z1 z2 z3 z4 z5 c0 c1 c2 c3 c4 c5
            have hF := set6_blk HCB.out.zer (.int .i64 4) (.bool false) (.int .i64 0) (.string ⟨#[]⟩) (.slice A7 (nl + 1) c7) (.slice none 0 0)
            obtain ⟨c0, c1, c2, c3, c4, c5⟩ := At.z6 hF.at0
            have hD := dn_ok HCB.out HTB.out HLN.out rfl (by omega)
            obtain ⟨Y, hY⟩ : ∃ Y : World, Y = set6 wB bb (.int .i64 4) (.bool false) (.int .i64 0) (.string ⟨#[]⟩) (.slice A7 (nl + 1) c7) (.slice none 0 0) := ⟨_, rfl⟩
            rw [← hY] at hD c0 c1 c2 c3 c4 c5
            unfold set6 at hY
            rw [← hY]
            clear hY hF
            refine bodyPost_ret (v := .agg #[.int .i64 4, .bool false, .int .i64 0, .string ⟨#[]⟩, .slice A7 (nl + 1) c7, .slice none 0 0]) (by simp [results, Tryd.results39, go_sem, c0, c1, c2, c3, c4, c5]) rfl ?_
            exact ⟨by rw [HR.out, HBE.out]; exact hD.1, hD.2⟩
          · have XWB2 := WB.out k2 hwb2
            rw [decide_eq_false he93] at XWB2
            have WB2 : Hid (∀ w', Dp w' g s k2 0 → Calls Tryd.prog 37 #[.pointer (some ⟨g, 0, none⟩), .string ⟨#[93]⟩] w' fun e w'' => e = .returned (.bool false) ∧ Dp w'' g s k2 0 ∧ Mv g w' w'') := XWB2
            clear XWB2
            by_cases he44 : bA s k2 = 44
            · have hk2s : k2 < s.size := bA_lt (by omega)
              have HTN : Hid ((match val (whiteE s (k2 + 1)) with | .error e => .error e | .ok (j, i4) => elemsP val s false f (whiteE s i4) false (T.js (l ++ [(T.mk vk vb vn vs vA vc vl vAK vcK vks)]) ++ [j]) []) = R) := by show _ = _; rw [← HTJ.out, HJS.out, el_list (by exact he93) (by simp [he44])]; rfl
              have XWC2 := WC.out k2 hwb2
              rw [decide_eq_true he44] at XWC2
              have WC2 : Hid (∀ w', Dp w' g s k2 0 → Calls Tryd.prog 37 #[.pointer (some ⟨g, 0, none⟩), .string ⟨#[44]⟩] w' fun e w'' => e = .returned (.bool true) ∧ Dp w'' g s (k2 + 1) 0 ∧ Mv g w' w'') := XWC2
              clear XWC2
              clear he93 he44
              go_wp2_with (first | (go_at_call 24; go_loud (with_reducible refine (WH.out i4 0 hi4 _ HC8.out.pr).mono ?_); rintro e w9 ⟨rfl, hp0, hm_⟩; have hp_ := hp0; rw [HK2.out] at hp_; have HC9 := hide (HC8.out.mv hm_ hp_); have HT9 := hide (DTs.mv HC8.out HT8.out hm_); obtain ⟨q0, q1, q2⟩ := At.z3 HC9.out.pr.at0; have lq := HC9.out.pr.lt; have fq := HC9.out.pr.free; clear hp_ hp0 hm_) | (go_at_call 37; go_loud (with_reducible refine (WB2.out _ HC9.out.pr).mono ?_); rintro e wB ⟨rfl, hp_, hm_⟩; have HCB := hide (HC9.out.mv hm_ hp_); have HTB := hide (DTs.mv HC9.out HT9.out hm_); clear q0 q1 q2 lq fq; obtain ⟨q0, q1, q2⟩ := At.z3 HCB.out.pr.at0; have lq := HCB.out.pr.lt; have fq := HCB.out.pr.free; clear hp_ hm_) | (go_at_call 37; go_loud (with_reducible refine (WC2.out _ HCB.out.pr).mono ?_); rintro e wC ⟨rfl, hp_, hm_⟩; have HCC := hide (HCB.out.mv hm_ hp_); have HTC := hide (DTs.mv HCB.out HTB.out hm_); clear hp_ hm_))
              go_roundw
              case rel => exact .inl ⟨f, k2 + 1, _, A7, c7, nl + 1, by omega, by omega, by omega, HLN, by omega, HTN.out, HCC.out, HTC.out⟩
              case measure => rw [msr_ok HCC.out.pr, msr_ok HC.out.pr]; omega
            · have HRN : Hid (R = .error 300) := by show _ = _; rw [← HTJ.out, el_comma (by exact he93) he44]
              have XWC2 := WC.out k2 hwb2
              rw [decide_eq_false he44] at XWC2
              have WC2 : Hid (∀ w', Dp w' g s k2 0 → Calls Tryd.prog 37 #[.pointer (some ⟨g, 0, none⟩), .string ⟨#[44]⟩] w' fun e w'' => e = .returned (.bool false) ∧ Dp w'' g s k2 0 ∧ Mv g w' w'') := XWC2
              clear XWC2
              clear he93 he44
              go_wp2_with (first | (go_at_call 24; go_loud (with_reducible refine (WH.out i4 0 hi4 _ HC8.out.pr).mono ?_); rintro e w9 ⟨rfl, hp0, hm_⟩; have hp_ := hp0; rw [HK2.out] at hp_; have HC9 := hide (HC8.out.mv hm_ hp_); have HT9 := hide (DTs.mv HC8.out HT8.out hm_); obtain ⟨q0, q1, q2⟩ := At.z3 HC9.out.pr.at0; have lq := HC9.out.pr.lt; have fq := HC9.out.pr.free; clear hp_ hp0 hm_) | (go_at_call 37; go_loud (with_reducible refine (WB2.out _ HC9.out.pr).mono ?_); rintro e wB ⟨rfl, hp_, hm_⟩; have HCB := hide (HC9.out.mv hm_ hp_); have HTB := hide (DTs.mv HC9.out HT9.out hm_); clear q0 q1 q2 lq fq; obtain ⟨q0, q1, q2⟩ := At.z3 HCB.out.pr.at0; have lq := HCB.out.pr.lt; have fq := HCB.out.pr.free; clear hp_ hm_) | (go_at_call 37; go_loud (with_reducible refine (WC2.out _ HCB.out.pr).mono ?_); rintro e wC ⟨rfl, hp_, hm_⟩; have HCC := hide (HCB.out.mv hm_ hp_); clear hp_ hm_) | (go_at_call 26; go_loud (with_reducible refine (FL.out _ _ HCC.out.pr).mono ?_); rintro e wF ⟨rfl, hp_, hm_⟩; have HCF := hide (HCC.out.mv hm_ hp_); clear hp_ hm_))
              go_roundw
              case rel => exact .inr ⟨k2, 300, _, A7, c7, nl + 1, hwb2, by omega, HRN, HLN, HCF.out⟩
              case measure => rw [msr_z HCF.out.pr (by omega), msr_ok HC.out.pr]; omega
      · have HC := hide hco
        obtain ⟨q0, q1, q2⟩ := At.z3 HC.out.pr.at0; have lq := HC.out.pr.lt; have fq := HC.out.pr.free
        clear hco
        have hec0 : (cd == 0) = false := beq_eq_false_iff_ne.2 (by omega)
        have hcne : cd ≠ 0 := by omega
        have HR : Hid (r = .error cd) := by show _ = _; rw [HRR.out, HN.out]; rfl
        obtain ⟨z0, z1, z2, z3, z4, z5⟩ := At.z6 HC.out.zer.at0
        have lz := HC.out.zer.lt
        have fz := HC.out.zer.free
        obtain ⟨c0, c1, c2, c3, c4, c5⟩ := At.z6 HC.out.blk.at0; have lc := HC.out.blk.lt; have fc := HC.out.blk.free
        go_wp2_with fail
        clear z0 z1 z2 z3 z4 z5 c0 c1 c2 c3 c4 c5
        have hF := set6_blk HC.out.zer (.int .i64 4) (.bool false) (.int .i64 0) (.string ⟨#[]⟩) (.slice A nl c) (.slice none 0 0)
        obtain ⟨c0, c1, c2, c3, c4, c5⟩ := At.z6 hF.at0
        have hD := dn_bad HC.out HL.out rfl hk hcne
        obtain ⟨Y, hY⟩ : ∃ Y : World, Y = set6 wo bb (.int .i64 4) (.bool false) (.int .i64 0) (.string ⟨#[]⟩) (.slice A nl c) (.slice none 0 0) := ⟨_, rfl⟩
        rw [← hY] at hD c0 c1 c2 c3 c4 c5
        unfold set6 at hY
        rw [← hY]
        clear hY hF
        refine bodyPost_ret (v := .agg #[.int .i64 4, .bool false, .int .i64 0, .string ⟨#[]⟩, .slice A nl c, .slice none 0 0]) (by simp [results, Tryd.results39, go_sem, c0, c1, c2, c3, c4, c5]) rfl ?_
        exact ⟨by rw [HR.out, HBE.out]; exact hD.1, hD.2⟩
end Go.Proofs.YtoibfefalflooaaDoor
