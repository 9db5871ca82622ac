/-
  The law JsonKeys.
-/
import Derived.Test.YtoibfefalflooaaDoorJ6
import Derived.Test.YtoibfefalflooaaDoorJ9
import Derived.Test.YtoibfefalflooaaDoorMp
namespace Go.Proofs.YtoibfefalflooaaDoor
open Go.RowKit

/-- An object under way: its own block, its lists behind it. -/
structure ObjAt (g : Nat) (w wr : World) (l : List T) (ks : List ByteArray) (A : Option Addr) (c nl : Nat) (AK : Option Addr) (cK nk : Nat) : Prop where
  blk : Blk wr g 25 [.int .i64 5, .bool false, .int .i64 0, .string ⟨#[]⟩, .slice A nl c, .slice AK nk cK]
  ol : Own wr (g + 1) 25 6 (.slice A nl c) (l.map T.cells)
  ok : Own wr (g + 1) 9 1 (.slice AK nk cK) (strCells ks)
  ts : TAts wr (fun q => g + 1 ≤ q ∧ ob A ≠ some q ∧ ob AK ≠ some q) l
  st : Step w wr
  sz : w.heap.size ≤ g
  size : g + 1 ≤ wr.heap.size
section
variable {g : Nat} {w w1 w2 : World} {l : List T} {ks : List ByteArray} {A : Option Addr} {c nl : Nat} {AK : Option Addr} {cK nk : Nat}
theorem ObjAt.step (h : ObjAt g w w1 l ks A c nl AK cK nk) [hs : Fut w1 w2] : ObjAt g w w2 l ks A c nl AK cK nk :=
  ⟨h.blk.fut, h.ol.fut, h.ok.fut, TAts.grown (grown_of_below hs.below) (fun q _ e => by cases e) h.ts, ⟨h.st.below.trans (hs.below.mono h.st.size)⟩, h.sz, Nat.le_trans h.size hs.below.size⟩
theorem ObjAt.addL (h : ObjAt g w w1 l ks A c nl AK cK nk) {t : T} {A2 : Option Addr} {c2 : Nat} (ht : TAt w1 (fun q => g + 1 ≤ q ∧ ob A ≠ some q ∧ ob AK ≠ some q) t)
    (hg : w1.grownBy w2 (Value.slice A nl c).ownBlock) (ho : Own w2 (g + 1) 25 6 (.slice A2 (nl + 1) c2) (l.map T.cells ++ [t.cells])) (hA : ob A2 = (Value.slice A nl c).ownBlock ∨ ob A2 = some w1.heap.size) :
    ObjAt g w (w2.setCell ⟨g, 4, none⟩ (.slice A2 (nl + 1) c2)) (l ++ [t]) ks A2 c2 (nl + 1) AK cK nk := by
  obtain ⟨h1, h2, h3, h4, h6, h7, h8⟩ := h
  have hbase : ∀ q, (Value.slice A nl c).ownBlock = some q → g + 1 ≤ q := fun q e => (h2.lt q e).1
  have hlow : ∀ q, q < g + 1 → some q ≠ (Value.slice A nl c).ownBlock := fun q hq e => by have := hbase q e.symm; omega
  have hset := grown_setCell w2 g 4 (.slice A2 (nl + 1) c2)
  have hb2 : w1.heap.size ≤ w2.heap.size := hg.size
  have hok : ∀ q, (g + 1 ≤ q ∧ ob A ≠ some q ∧ ob AK ≠ some q) ∧ q < w1.heap.size → g + 1 ≤ q ∧ ob A2 ≠ some q ∧ ob AK ≠ some q := fun q hq => ⟨hq.1.1, fun e => by
    rcases hA with e1 | e1
    · rw [e1, ob_eq] at e; exact hq.1.2.1 e
    · rw [e1] at e; injection e with e; omega, hq.1.2.2⟩
  have hrow : ∀ q, (g + 1 ≤ q ∧ ob A ≠ some q ∧ ob AK ≠ some q) ∧ q < w1.heap.size → (Value.slice A nl c).ownBlock ≠ some q := fun q hq e => hq.1.2.1 (by rw [← ob_eq A nl c]; exact e)
  have hrow2 : ∀ q, g + 1 ≤ q ∧ ob A2 ≠ some q ∧ ob AK ≠ some q → some g ≠ some q := fun q hq e => by have := hq.1; injection e with e; omega
  have hl4 := TAts.grown hset hrow2 (TAts.weak hok (TAts.grown hg hrow (TAts.lt h4)))
  have ht4 := TAt.grown hset hrow2 (TAt.weak hok (TAt.grown hg hrow (TAt.lt ht)))
  have hbel : Below w.heap.size w1 w2 := ⟨hg.os, hg.tape, hg.output, hg.size, fun q hq => hg.block q (Nat.lt_of_lt_of_le hq h6.size) (hlow q (by omega))⟩
  refine ⟨(h1.grown hg (hlow _ (by omega))).set_ 4 _, ?_, ?_, hl4.app ht4, ⟨(h6.below.trans hbel).setCell (p := ⟨g, 4, none⟩) h7 _⟩, h7, Nat.le_trans (Nat.le_trans h8 hb2) hset.size⟩
  · rw [List.map_append]
    exact ho.grown_other hset (fun q e e2 => by have := (ho.lt q e).1; injection e2 with e2; omega)
  · exact (h3.grown_other hg (own_apart h3 h2 (by decide))).grown_other hset (fun q e e2 => by have := (h3.lt q e).1; injection e2 with e2; omega)
theorem ObjAt.addK (h : ObjAt g w w1 l ks A c nl AK cK nk) {t : ByteArray} {A2 : Option Addr} {c2 : Nat}
    (hg : w1.grownBy w2 (Value.slice AK nk cK).ownBlock) (ho : Own w2 (g + 1) 9 1 (.slice A2 (nk + 1) c2) (strCells ks ++ [[.string t]])) (hA : ob A2 = (Value.slice AK nk cK).ownBlock ∨ ob A2 = some w1.heap.size) :
    ObjAt g w (w2.setCell ⟨g, 5, none⟩ (.slice A2 (nk + 1) c2)) l (ks ++ [t]) A c nl A2 c2 (nk + 1) := by
  obtain ⟨h1, h2, h3, h4, h6, h7, h8⟩ := h
  have hbase : ∀ q, (Value.slice AK nk cK).ownBlock = some q → g + 1 ≤ q := fun q e => (h3.lt q e).1
  have hlow : ∀ q, q < g + 1 → some q ≠ (Value.slice AK nk cK).ownBlock := fun q hq e => by have := hbase q e.symm; omega
  have hset := grown_setCell w2 g 5 (.slice A2 (nk + 1) c2)
  have hb2 : w1.heap.size ≤ w2.heap.size := hg.size
  have hok : ∀ q, (g + 1 ≤ q ∧ ob A ≠ some q ∧ ob AK ≠ some q) ∧ q < w1.heap.size → g + 1 ≤ q ∧ ob A ≠ some q ∧ ob A2 ≠ some q := fun q hq => ⟨hq.1.1, hq.1.2.1, fun e => by
    rcases hA with e1 | e1
    · rw [e1, ob_eq] at e; exact hq.1.2.2 e
    · rw [e1] at e; injection e with e; omega⟩
  have hrow : ∀ q, (g + 1 ≤ q ∧ ob A ≠ some q ∧ ob AK ≠ some q) ∧ q < w1.heap.size → (Value.slice AK nk cK).ownBlock ≠ some q := fun q hq e => hq.1.2.2 (by rw [← ob_eq AK nk cK]; exact e)
  have hrow2 : ∀ q, g + 1 ≤ q ∧ ob A ≠ some q ∧ ob A2 ≠ some q → some g ≠ some q := fun q hq e => by have := hq.1; injection e with e; omega
  have hl4 := TAts.grown hset hrow2 (TAts.weak hok (TAts.grown hg hrow (TAts.lt h4)))
  have hbel : Below w.heap.size w1 w2 := ⟨hg.os, hg.tape, hg.output, hg.size, fun q hq => hg.block q (Nat.lt_of_lt_of_le hq h6.size) (hlow q (by omega))⟩
  refine ⟨(h1.grown hg (hlow _ (by omega))).set_ 5 _, ?_, ?_, hl4, ⟨(h6.below.trans hbel).setCell (p := ⟨g, 5, none⟩) h7 _⟩, h7, Nat.le_trans (Nat.le_trans h8 hb2) hset.size⟩
  · exact (h2.grown_other hg (own_apart h2 h3 (by decide))).grown_other hset (fun q e e2 => by have := (h2.lt q e).1; injection e2 with e2; omega)
  · unfold strCells at ho ⊢
    rw [List.map_append]
    exact ho.grown_other hset (fun q e e2 => by have := (ho.lt q e).1; injection e2 with e2; omega)
theorem ObjAt.rdd (h : ObjAt g w w1 l ks A c nl AK cK nk) (hl : l.length = nl) (hk : ks.length = nk) {j : J} (hj : J.mk 5 false 0 ⟨#[]⟩ (T.js l) ks = j) (hf : FineJ j) : Rdd w1 j 5 false 0 ⟨#[]⟩ A nl c AK nk cK := by
  refine ⟨l, ks, hl, hk, by rw [T.j]; exact hj, TAt.rd (ok := fun _ => True) ?_ (by rw [T.j, hj]; exact hf)⟩
  rw [TAt, hl, hk]
  exact ⟨h.ol.more (Nat.zero_le _), h.ok.more (Nat.zero_le _), fun _ _ => trivial, fun _ _ => trivial, TAts.weak (fun _ _ => trivial) h.ts⟩
/-- Its first value. -/
theorem ObjAt.first (h : ObjAt g w w1 l ks A c nl AK cK nk) {t : T} {r : List T} (hl : l = t :: r) (hn : l.length = nl) : ∃ b, A = some ⟨b, 0, none⟩ ∧ b < w1.heap.size ∧ At w1 b 0 t.cells ∧ TAt w1 (fun _ => True) t := by
  have hs := h.ol.sl (tree_fit _).len
  obtain ⟨b, o, e, hb, hc⟩ := hs (by rw [hl]; simp)
  have h0 := hc 0 t.cells (by rw [hl]; rfl)
  rw [Nat.zero_mul, Nat.add_zero] at h0
  have hz : o = 0 := by
    obtain ⟨g2, hg2⟩ : ∃ g2, A = some ⟨g2, 0, none⟩ := by
      rcases h.ol.2 with ⟨hv, _⟩ | ⟨g2, cap, cur, hv, _⟩
      · cases hv
        simp at e
      · injection hv with hv
        exact ⟨g2, hv⟩
    rw [hg2] at e
    injection e with e
    injection e with _ e2
    exact e2.symm
  subst hz
  have ht := h.ts
  rw [hl, TAts] at ht
  exact ⟨b, e, hb, h0, TAt.weak (fun _ _ => trivial) ht.1⟩
end
theorem cell_grown {w w' : World} {row : Option Nat} (hg : w.grownBy w' row) {b o : Nat} (hb : b < w.heap.size) (hne : some b ≠ row) : w'.cell? ⟨b, o, none⟩ = w.cell? ⟨b, o, none⟩ := by
  have h := hg.block b hb hne
  unfold World.cell?
  rw [h]
theorem itoa_small {q : Nat} (h : q < 8) : ofL (Go.Lib.itoa (q : Int)) = ⟨#[UInt8.ofNat (48 + q)]⟩ := by
  unfold Go.Lib.itoa
  rw [if_neg (by omega), Int.toNat_natCast, Go.Lib.decDigits_one (by omega)]
  rfl
theorem fine_kJ (k : Nat) (hk : k ≤ 8) : FineJ (kJ k) := by
  have key : ∀ l : List Nat, (∀ q ∈ l, q ≤ 8) → FineJs (l.map fun q : Nat => nJ (10 * (q : Int))) := by
    intro l
    induction l with
    | nil => intro _; rw [List.map_nil, FineJs]; trivial
    | cons a r ih =>
      intro h
      rw [List.map_cons, FineJs]
      have ha := h a (by simp)
      exact ⟨fine_leaf (by decide) ⟨by omega, by omega⟩ (by decide), ih (fun q hq => h q (by simp [hq]))⟩
  rw [kJ, FineJ]
  refine ⟨⟨by simp; omega, by simp; omega⟩, ⟨by decide, by decide⟩, by decide, fun q hq => ?_, key _ (fun q hq => by have := List.mem_range.1 hq; omega)⟩
  obtain ⟨a, ha, rfl⟩ := List.mem_map.1 hq
  have := List.mem_range.1 ha
  rw [kS, itoa_small (by omega), ByteArray.size_append]
  show 2 ≤ maxLen
  decide
theorem fine_kJ2 (k w : Nat) (hk : k ≤ 8) (hw : w < 8) : FineJ (kJ2 k w) := by
  have h := fine_kJ k hk
  rw [kJ, FineJ] at h
  rw [kJ2, FineJ]
  refine ⟨⟨by simp; omega, by simp; omega⟩, ⟨by decide, by decide⟩, by decide, fun q hq => ?_, h.2.2.2.2.app fine_zero⟩
  rcases List.mem_append.1 hq with hq | hq
  · exact h.2.2.2.1 q hq
  · rw [List.mem_singleton] at hq
    subst hq
    rw [kS, itoa_small hw, ByteArray.size_append]
    show 2 ≤ maxLen
    decide

set_option maxRecDepth 100000 in
set_option maxHeartbeats 16000000 in
theorem jkeys_once (many at_ : Int) (w : World) (htb : Tab w) :
    Calls Tryd.prog 8 #[.int .i64 many, .int .i64 at_, .bool false] w fun e w' => e = .returned (.bool true) ∧ Step w w' := by
  have HTB := hide htb
  have AW : Hid (∀ w' (hf : Fut w w'), Calls Tryd.prog 14 #[] w' fun e w'' => e = .returned (.bool true) ∧ Step w' w'') := fun w' hf => awake3_any w' (Tab.fut htb)
  obtain ⟨M, hM, hM7⟩ : ∃ M : Nat, bits .and .i64 many 7 = (M : Int) ∧ M < 8 := ⟨(many % 8).toNat, by rw [i64_and7]; omega, by omega⟩
  have NM := hide num_any
  have DC := hide (fun (q : Nat) (hq : q < 8) w' => dec_any (q : Int) (by omega) (by omega) w')
  clear htb
  go_enter Tryd.func8, Tryd.ntmps8
  go_upto_region 4 with (go_at_call 14; (with_reducible refine (AW.out _ inferInstance).mono ?_); rintro e wa ⟨rfl, hsa⟩)
  clear hM
  have hm1 : (1 : Int) + (M : Int) = ((M + 1 : Nat) : Int) := by omega
  rw [hm1]
  obtain ⟨K, hK⟩ : ∃ K, M + 1 = K := ⟨_, rfl⟩
  rw [hK]
  have hK1 : 1 ≤ K := by omega
  have hK8 : K ≤ 8 := by omega
  clear hm1 hK hM7
  go_upto_region 5 with fail
  obtain ⟨W1, hW1⟩ : ∃ W : World, W = wa.alloc (.cells #[.int .i64 5, .bool false, .int .i64 0, .string ⟨#[]⟩, .slice none 0 0, .slice none 0 0] 25) := ⟨_, rfl⟩
  have HO1 : Hid (ObjAt wa.heap.size w W1 [] [] none 0 0 none 0 0) := by
    rw [hW1]
    exact ⟨Blk.new wa _ 25, Own.nil_ _ _ _ _, Own.nil_ _ _ _ _, by rw [TAts]; trivial, Step.of, (fut w wa).size, by simp⟩
  have SW1 : Step wa W1 := by rw [hW1]; exact Step.of
  rw [← hW1]
  obtain ⟨g, hg⟩ : ∃ g, wa.heap.size = g := ⟨_, rfl⟩
  rw [hg] at HO1
  rw [hg]
  have HG := hide hg
  clear hW1 hg
  go_wp2_with fail
  go_loopw [9] (fun v9 wr => ∃ (i c cK : Nat) (A AK : Option Addr) (l : List T) (ks : List ByteArray), i ≤ K ∧ v9 = .int .i64 i ∧ Hid (T.js l = (List.range i).map (fun q : Nat => nJ (10 * (q : Int))) ∧ ks = (List.range i).map kS ∧ l.length = i ∧ ks.length = i) ∧ ObjAt g w wr l ks A c i AK cK i) (fun v9 _ => K - (intOf v9).toNat)
  case atStart => exact ⟨0, 0, 0, none, none, [], [], Nat.zero_le _, rfl, ⟨rfl, rfl, rfl, rfl⟩, HO1.out⟩
  case round =>
    obtain ⟨i, c, cK, A, AK, l, ks, hi, rfl, HLK, hca⟩ := hrel
    have HC := hide hca
    have hgw := hca.sz
    clear hca HO1
    obtain ⟨wo, rfl⟩ : ∃ x : World, x = wr := ⟨_, rfl⟩
    have HKL : Hid (ks.length = i) := HLK.out.2.2.2
    have HLL : Hid (l.length = i) := HLK.out.2.2.1
    obtain ⟨c0, c1, c2, c3, c4, c5⟩ := At.z6 HC.out.blk.at0
    have lc := HC.out.blk.lt
    have fc := HC.out.blk.free
    by_cases hlt : i < K
    · have hil : (i : Int) < (K : Int) := by omega
      have hi0 : (i : Int) + 1 ≤ 100 := by omega
      have hi8 : i < 8 := by omega
      obtain ⟨SD, hSD⟩ : ∃ S, ofL (Go.Lib.itoa (i : Int)) = S := ⟨_, rfl⟩
      have hSs : SD.size = 1 := by rw [← hSD, itoa_small hi8]; rfl
      have DI := DC.out i hi8
      rw [hSD] at DI
      have DI := hide DI
      have HKS : Hid (⟨#[107]⟩ ++ SD = kS i) := by show _ = _; rw [kS, hSD]
      clear hSD
      go_upto_region 8 with fail
      refine wp_region_held_drew (S := (fun _ => True ∧ True)) (by kernel_rfl) (by (try dsimp only); (exact ⟨trivial, trivial⟩)) (fun hHeld => ?_)
      refine wpAnyH_take (i := 0) (oi := ⟨some 32, _, _, _, _, _⟩) (v := ?_) rfl (by kernel_rfl) (by kernel_rfl) (by kernel_rfl) (fun _ _ _ h => h) (Or.inl ⟨by rfl, ?_⟩) (by assumption) ?_
      rotate_left
      · ((intro w hSw); (try dsimp only at hSw); go_simp; (try with_reducible rfl))
      (try simp only [Act.put, List.setIfInBounds_toArray, List.set_cons_zero, List.set_cons_succ])
      refine wpAnyH_take (i := 2) (oi := ⟨some 34, _, _, _, _, _⟩) (v := ?_) rfl (by kernel_rfl) (by kernel_rfl) (by kernel_rfl) (fun _ _ _ h => h) (Or.inl ⟨by rfl, ?_⟩) (by assumption) ?_
      rotate_left
      · ((intro w hSw); (try dsimp only at hSw); go_simp; (try with_reducible rfl))
      (try simp only [Act.put, List.setIfInBounds_toArray, List.set_cons_zero, List.set_cons_succ])
      refine wpAnyH_ready (rs := [1, 3]) (by kernel_rfl) (by simp) ?_
      refine AllReadyH.cons (o := ⟨some 33, _, _, _, _, _⟩) rfl (fun K hK => ?_) (AllReadyH.cons (o := ⟨some 35, _, _, _, _, _⟩) rfl (fun K hK => ?_) AllReadyH.nil)
      · go_simp
        refine hK.out _ _ (by (try dsimp only); (exact ⟨trivial, trivial⟩)) (fun hHeld => ?_)
        clear hK K
        (try simp only [Act.put, List.setIfInBounds_toArray, List.set_cons_zero, List.set_cons_succ])
        refine wpAnyH_ready (rs := [3]) (by kernel_rfl) (by simp) ?_
        refine AllReadyH.cons (o := ⟨some 35, _, _, _, _, _⟩) rfl (fun K hK => ?_) AllReadyH.nil
        obtain ⟨hS1, hS2⟩ := hHeld
        go_simp
        (go_at_call 18; (with_reducible refine (DI.out _).mono ?_); rintro e w5 ⟨rfl, hs5⟩; have HC5 := hide (HC.out.step (w2 := w5)); clear c0 c1 c2 c3 c4 c5 lc fc; obtain ⟨c0, c1, c2, c3, c4, c5⟩ := At.z6 HC5.out.blk.at0; have lc := HC5.out.blk.lt; have fc := HC5.out.blk.free)
        refine hK.out _ _ (by (try dsimp only); (exact ⟨trivial, trivial⟩)) (fun hHeld => ?_)
        clear hK K
        (try simp only [Act.put, List.setIfInBounds_toArray, List.set_cons_zero, List.set_cons_succ])
        refine wpAnyH_take (i := 4) (oi := ⟨some 36, _, _, _, _, _⟩) (v := ?_) rfl (by kernel_rfl) (by kernel_rfl) (by kernel_rfl) (fun _ _ _ h => h) (Or.inl ⟨by rfl, ?_⟩) (by assumption) ?_
        rotate_left
        · ((intro w hSw); (try dsimp only at hSw); go_simp; (try with_reducible rfl))
        (try simp only [Act.put, List.setIfInBounds_toArray, List.set_cons_zero, List.set_cons_succ])
        refine wpAnyH_ready (rs := [5]) (by kernel_rfl) (by simp) ?_
        refine AllReadyH.cons (o := ⟨some 37, _, _, _, _, _⟩) rfl (fun K hK => ?_) AllReadyH.nil
        go_simp
        refine hK.out _ _ (by (try dsimp only); (exact ⟨trivial, trivial⟩)) (fun hHeld => ?_)
        clear hK K
        (try simp only [Act.put, List.setIfInBounds_toArray, List.set_cons_zero, List.set_cons_succ])
        refine wpAnyH_ready (rs := [6]) (by kernel_rfl) (by simp) ?_
        refine AllReadyH.cons (o := ⟨some 38, _, _, _, _, _⟩) rfl (fun K hK => ?_) AllReadyH.nil
        (have HC6 := hide (HC5.out.step (w2 := w5.alloc (.cells #[.string (⟨#[107]⟩ ++ SD)] 9))); refine step_append_slB rfl (.tmp 33) (.tmp 37) 23 rfl eiK (base := g + 1) (xs := strCells ks) rfl HC6.out.ok (keys_fit _) (ad := ⟨w5.heap.size, 0, none⟩) (c := 1) (y := [.string (⟨#[107]⟩ ++ SD)]) rfl (cells_at w5 [.string (⟨#[107]⟩ ++ SD)] 9) (keys_fit [(⟨#[107]⟩ : ByteArray) ++ SD]) (by rw [strCells, List.length_map, HKL.out]; omega) HC6.out.size (N := i + 1) (by rw [strCells, List.length_map, HKL.out]) ?_; intro A7 c7 w7 ho7 hg7 hb7 hA7; have HC8 := hide (HC6.out.addK hg7 ho7 hA7); have hb7_ := HC6.out.blk.grown hg7 (by intro e; have := (HC6.out.ok.lt _ e.symm).1; omega); clear ho7 hg7 hb7 hA7; clear c0 c1 c2 c3 c4 c5 lc fc; obtain ⟨c0, c1, c2, c3, c4, c5⟩ := At.z6 hb7_.at0; have lc := hb7_.lt; have fc := hb7_.free; clear hb7_)
        refine hK.out _ _ (by (try dsimp only); (exact ⟨trivial, trivial⟩)) (fun hHeld => ?_)
        clear hK K
        (try simp only [Act.put, List.setIfInBounds_toArray, List.set_cons_zero, List.set_cons_succ])
        refine wpAnyH_take (i := 7) (oi := ⟨some 39, _, _, _, _, _⟩) (v := ?_) rfl (by kernel_rfl) (by kernel_rfl) (by kernel_rfl) (fun _ _ _ h => h) (Or.inl ⟨by rfl, ?_⟩) (by assumption) ?_
        rotate_left
        · ((intro w hSw); (try dsimp only at hSw); go_simp; (try with_reducible rfl))
        (try simp only [Act.put, List.setIfInBounds_toArray, List.set_cons_zero, List.set_cons_succ])
        refine wpAnyH_ready (rs := [8]) (by kernel_rfl) (by simp) ?_
        refine AllReadyH.cons (o := ⟨none, _, _, _, _, _⟩) rfl (fun K hK => ?_) AllReadyH.nil
        go_simp
        refine hK.out _ _ (by (try dsimp only); (exact ⟨trivial, trivial⟩)) (fun hHeld => ?_)
        clear hK K
        (try simp only [Act.put, List.setIfInBounds_toArray, List.set_cons_zero, List.set_cons_succ])
        refine wpAnyH_done (by kernel_rfl) ?_ _
        have HKL8 : Hid ((ks ++ [⟨#[107]⟩ ++ SD]).length = i + 1) := by show _ = _; rw [List.length_append, HKL.out]; rfl
        obtain ⟨V, hV⟩ : ∃ V : World, V = w7.setCell ⟨g, 5, none⟩ (.slice A7 (i + 1) c7) := ⟨_, rfl⟩
        rw [← hV] at HC8
        rw [← hV]
        clear hV c0 c1 c2 c3 c4 c5 lc fc
        obtain ⟨c0, c1, c2, c3, c4, c5⟩ := At.z6 HC8.out.blk.at0
        have lc := HC8.out.blk.lt
        have fc := HC8.out.blk.free
        have hmu : (10 : Int) * (i : Int) ≤ 100 := by omega
        have hmu0 : 0 ≤ (10 : Int) * (i : Int) := by omega
        go_wp2_with (at_builtin; have HC9 := hide (HC8.out.step (w2 := V.alloc (.cells #[.int .i64 2, .bool false, .int .i64 (10 * (i : Int)), .string ⟨#[]⟩, .slice none 0 0, .slice none 0 0] 25))); refine wpList_append_slB rfl (.tmp 41) (.tmp 45) 22 rfl eiJ (base := g + 1) (xs := l.map T.cells) rfl HC9.out.ol (tree_fit _) (ad := ⟨V.heap.size, 0, none⟩) (c := 1) (y := [.int .i64 2, .bool false, .int .i64 (10 * (i : Int)), .string ⟨#[]⟩, .slice none 0 0, .slice none 0 0]) rfl (cells_at V [.int .i64 2, .bool false, .int .i64 (10 * (i : Int)), .string ⟨#[]⟩, .slice none 0 0, .slice none 0 0] 25) (tree_fit [.mk 2 false (10 * (i : Int)) ⟨#[]⟩ none 0 [] none 0 []]) (by rw [List.length_map, HLL.out]; omega) HC9.out.size (N := i + 1) (by rw [List.length_map, HLL.out]) ?_; intro A9 c9 w9 ho9 hg9 hb9 hA9; have HC10 := hide (HC9.out.addL (t := .mk 2 false (10 * (i : Int)) ⟨#[]⟩ none 0 [] none 0 []) (TAt.leaf _ _ _ _ _ _) hg9 ho9 hA9); have hb9_ := HC9.out.blk.grown hg9 (by intro e; have := (HC9.out.ol.lt _ e.symm).1; omega); clear ho9 hg9 hb9 hA9 c0 c1 c2 c3 c4 c5 lc fc; obtain ⟨c0, c1, c2, c3, c4, c5⟩ := At.z6 hb9_.at0; have lc := hb9_.lt; have fc := hb9_.free; clear hb9_)
        go_roundw
        case rel => exact ⟨i + 1, c9, c7, A9, A7, l ++ [.mk 2 false (10 * (i : Int)) ⟨#[]⟩ none 0 [] none 0 []], ks ++ [⟨#[107]⟩ ++ SD], by omega, by go_num, ⟨by rw [js_app, HLK.out.1, List.range_succ, List.map_append]; rfl, by rw [HKS.out, HLK.out.2.1, List.range_succ, List.map_append]; rfl, by rw [List.length_append, HLL.out]; rfl, HKL8.out⟩, HC10.out⟩
        case measure => simp [intOf]; omega
      · obtain ⟨hS1, hS2⟩ := hHeld
        go_simp
        (go_at_call 18; (with_reducible refine (DI.out _).mono ?_); rintro e w5 ⟨rfl, hs5⟩; have HC5 := hide (HC.out.step (w2 := w5)); clear c0 c1 c2 c3 c4 c5 lc fc; obtain ⟨c0, c1, c2, c3, c4, c5⟩ := At.z6 HC5.out.blk.at0; have lc := HC5.out.blk.lt; have fc := HC5.out.blk.free)
        refine hK.out _ _ (by (try dsimp only); (exact ⟨trivial, trivial⟩)) (fun hHeld => ?_)
        clear hK K
        (try simp only [Act.put, List.setIfInBounds_toArray, List.set_cons_zero, List.set_cons_succ])
        refine wpAnyH_take (i := 4) (oi := ⟨some 36, _, _, _, _, _⟩) (v := ?_) rfl (by kernel_rfl) (by kernel_rfl) (by kernel_rfl) (fun _ _ _ h => h) (Or.inl ⟨by rfl, ?_⟩) (by assumption) ?_
        rotate_left
        · ((intro w hSw); (try dsimp only at hSw); go_simp; (try with_reducible rfl))
        (try simp only [Act.put, List.setIfInBounds_toArray, List.set_cons_zero, List.set_cons_succ])
        refine wpAnyH_ready (rs := [1, 5]) (by kernel_rfl) (by simp) ?_
        refine AllReadyH.cons (o := ⟨some 33, _, _, _, _, _⟩) rfl (fun K hK => ?_) (AllReadyH.cons (o := ⟨some 37, _, _, _, _, _⟩) rfl (fun K hK => ?_) AllReadyH.nil)
        · go_simp
          refine hK.out _ _ (by (try dsimp only); (exact ⟨trivial, trivial⟩)) (fun hHeld => ?_)
          clear hK K
          (try simp only [Act.put, List.setIfInBounds_toArray, List.set_cons_zero, List.set_cons_succ])
          refine wpAnyH_ready (rs := [5]) (by kernel_rfl) (by simp) ?_
          refine AllReadyH.cons (o := ⟨some 37, _, _, _, _, _⟩) rfl (fun K hK => ?_) AllReadyH.nil
          go_simp
          refine hK.out _ _ (by (try dsimp only); (exact ⟨trivial, trivial⟩)) (fun hHeld => ?_)
          clear hK K
          (try simp only [Act.put, List.setIfInBounds_toArray, List.set_cons_zero, List.set_cons_succ])
          refine wpAnyH_ready (rs := [6]) (by kernel_rfl) (by simp) ?_
          refine AllReadyH.cons (o := ⟨some 38, _, _, _, _, _⟩) rfl (fun K hK => ?_) AllReadyH.nil
          (have HC6 := hide (HC5.out.step (w2 := w5.alloc (.cells #[.string (⟨#[107]⟩ ++ SD)] 9))); refine step_append_slB rfl (.tmp 33) (.tmp 37) 23 rfl eiK (base := g + 1) (xs := strCells ks) rfl HC6.out.ok (keys_fit _) (ad := ⟨w5.heap.size, 0, none⟩) (c := 1) (y := [.string (⟨#[107]⟩ ++ SD)]) rfl (cells_at w5 [.string (⟨#[107]⟩ ++ SD)] 9) (keys_fit [(⟨#[107]⟩ : ByteArray) ++ SD]) (by rw [strCells, List.length_map, HKL.out]; omega) HC6.out.size (N := i + 1) (by rw [strCells, List.length_map, HKL.out]) ?_; intro A7 c7 w7 ho7 hg7 hb7 hA7; have HC8 := hide (HC6.out.addK hg7 ho7 hA7); have hb7_ := HC6.out.blk.grown hg7 (by intro e; have := (HC6.out.ok.lt _ e.symm).1; omega); clear ho7 hg7 hb7 hA7; clear c0 c1 c2 c3 c4 c5 lc fc; obtain ⟨c0, c1, c2, c3, c4, c5⟩ := At.z6 hb7_.at0; have lc := hb7_.lt; have fc := hb7_.free; clear hb7_)
          refine hK.out _ _ (by (try dsimp only); (exact ⟨trivial, trivial⟩)) (fun hHeld => ?_)
          clear hK K
          (try simp only [Act.put, List.setIfInBounds_toArray, List.set_cons_zero, List.set_cons_succ])
          refine wpAnyH_take (i := 7) (oi := ⟨some 39, _, _, _, _, _⟩) (v := ?_) rfl (by kernel_rfl) (by kernel_rfl) (by kernel_rfl) (fun _ _ _ h => h) (Or.inl ⟨by rfl, ?_⟩) (by assumption) ?_
          rotate_left
          · ((intro w hSw); (try dsimp only at hSw); go_simp; (try with_reducible rfl))
          (try simp only [Act.put, List.setIfInBounds_toArray, List.set_cons_zero, List.set_cons_succ])
          refine wpAnyH_ready (rs := [8]) (by kernel_rfl) (by simp) ?_
          refine AllReadyH.cons (o := ⟨none, _, _, _, _, _⟩) rfl (fun K hK => ?_) AllReadyH.nil
          go_simp
          refine hK.out _ _ (by (try dsimp only); (exact ⟨trivial, trivial⟩)) (fun hHeld => ?_)
          clear hK K
          (try simp only [Act.put, List.setIfInBounds_toArray, List.set_cons_zero, List.set_cons_succ])
          refine wpAnyH_done (by kernel_rfl) ?_ _
          have HKL8 : Hid ((ks ++ [⟨#[107]⟩ ++ SD]).length = i + 1) := by show _ = _; rw [List.length_append, HKL.out]; rfl
          obtain ⟨V, hV⟩ : ∃ V : World, V = w7.setCell ⟨g, 5, none⟩ (.slice A7 (i + 1) c7) := ⟨_, rfl⟩
          rw [← hV] at HC8
          rw [← hV]
          clear hV c0 c1 c2 c3 c4 c5 lc fc
          obtain ⟨c0, c1, c2, c3, c4, c5⟩ := At.z6 HC8.out.blk.at0
          have lc := HC8.out.blk.lt
          have fc := HC8.out.blk.free
          have hmu : (10 : Int) * (i : Int) ≤ 100 := by omega
          have hmu0 : 0 ≤ (10 : Int) * (i : Int) := by omega
          go_wp2_with (at_builtin; have HC9 := hide (HC8.out.step (w2 := V.alloc (.cells #[.int .i64 2, .bool false, .int .i64 (10 * (i : Int)), .string ⟨#[]⟩, .slice none 0 0, .slice none 0 0] 25))); refine wpList_append_slB rfl (.tmp 41) (.tmp 45) 22 rfl eiJ (base := g + 1) (xs := l.map T.cells) rfl HC9.out.ol (tree_fit _) (ad := ⟨V.heap.size, 0, none⟩) (c := 1) (y := [.int .i64 2, .bool false, .int .i64 (10 * (i : Int)), .string ⟨#[]⟩, .slice none 0 0, .slice none 0 0]) rfl (cells_at V [.int .i64 2, .bool false, .int .i64 (10 * (i : Int)), .string ⟨#[]⟩, .slice none 0 0, .slice none 0 0] 25) (tree_fit [.mk 2 false (10 * (i : Int)) ⟨#[]⟩ none 0 [] none 0 []]) (by rw [List.length_map, HLL.out]; omega) HC9.out.size (N := i + 1) (by rw [List.length_map, HLL.out]) ?_; intro A9 c9 w9 ho9 hg9 hb9 hA9; have HC10 := hide (HC9.out.addL (t := .mk 2 false (10 * (i : Int)) ⟨#[]⟩ none 0 [] none 0 []) (TAt.leaf _ _ _ _ _ _) hg9 ho9 hA9); have hb9_ := HC9.out.blk.grown hg9 (by intro e; have := (HC9.out.ol.lt _ e.symm).1; omega); clear ho9 hg9 hb9 hA9 c0 c1 c2 c3 c4 c5 lc fc; obtain ⟨c0, c1, c2, c3, c4, c5⟩ := At.z6 hb9_.at0; have lc := hb9_.lt; have fc := hb9_.free; clear hb9_)
          go_roundw
          case rel => exact ⟨i + 1, c9, c7, A9, A7, l ++ [.mk 2 false (10 * (i : Int)) ⟨#[]⟩ none 0 [] none 0 []], ks ++ [⟨#[107]⟩ ++ SD], by omega, by go_num, ⟨by rw [js_app, HLK.out.1, List.range_succ, List.map_append]; rfl, by rw [HKS.out, HLK.out.2.1, List.range_succ, List.map_append]; rfl, by rw [List.length_append, HLL.out]; rfl, HKL8.out⟩, HC10.out⟩
          case measure => simp [intOf]; omega
        · go_simp
          refine hK.out _ _ (by (try dsimp only); (exact ⟨trivial, trivial⟩)) (fun hHeld => ?_)
          clear hK K
          (try simp only [Act.put, List.setIfInBounds_toArray, List.set_cons_zero, List.set_cons_succ])
          refine wpAnyH_ready (rs := [1]) (by kernel_rfl) (by simp) ?_
          refine AllReadyH.cons (o := ⟨some 33, _, _, _, _, _⟩) rfl (fun K hK => ?_) AllReadyH.nil
          go_simp
          refine hK.out _ _ (by (try dsimp only); (exact ⟨trivial, trivial⟩)) (fun hHeld => ?_)
          clear hK K
          (try simp only [Act.put, List.setIfInBounds_toArray, List.set_cons_zero, List.set_cons_succ])
          refine wpAnyH_ready (rs := [6]) (by kernel_rfl) (by simp) ?_
          refine AllReadyH.cons (o := ⟨some 38, _, _, _, _, _⟩) rfl (fun K hK => ?_) AllReadyH.nil
          (have HC6 := hide (HC5.out.step (w2 := w5.alloc (.cells #[.string (⟨#[107]⟩ ++ SD)] 9))); refine step_append_slB rfl (.tmp 33) (.tmp 37) 23 rfl eiK (base := g + 1) (xs := strCells ks) rfl HC6.out.ok (keys_fit _) (ad := ⟨w5.heap.size, 0, none⟩) (c := 1) (y := [.string (⟨#[107]⟩ ++ SD)]) rfl (cells_at w5 [.string (⟨#[107]⟩ ++ SD)] 9) (keys_fit [(⟨#[107]⟩ : ByteArray) ++ SD]) (by rw [strCells, List.length_map, HKL.out]; omega) HC6.out.size (N := i + 1) (by rw [strCells, List.length_map, HKL.out]) ?_; intro A7 c7 w7 ho7 hg7 hb7 hA7; have HC8 := hide (HC6.out.addK hg7 ho7 hA7); have hb7_ := HC6.out.blk.grown hg7 (by intro e; have := (HC6.out.ok.lt _ e.symm).1; omega); clear ho7 hg7 hb7 hA7; clear c0 c1 c2 c3 c4 c5 lc fc; obtain ⟨c0, c1, c2, c3, c4, c5⟩ := At.z6 hb7_.at0; have lc := hb7_.lt; have fc := hb7_.free; clear hb7_)
          refine hK.out _ _ (by (try dsimp only); (exact ⟨trivial, trivial⟩)) (fun hHeld => ?_)
          clear hK K
          (try simp only [Act.put, List.setIfInBounds_toArray, List.set_cons_zero, List.set_cons_succ])
          refine wpAnyH_take (i := 7) (oi := ⟨some 39, _, _, _, _, _⟩) (v := ?_) rfl (by kernel_rfl) (by kernel_rfl) (by kernel_rfl) (fun _ _ _ h => h) (Or.inl ⟨by rfl, ?_⟩) (by assumption) ?_
          rotate_left
          · ((intro w hSw); (try dsimp only at hSw); go_simp; (try with_reducible rfl))
          (try simp only [Act.put, List.setIfInBounds_toArray, List.set_cons_zero, List.set_cons_succ])
          refine wpAnyH_ready (rs := [8]) (by kernel_rfl) (by simp) ?_
          refine AllReadyH.cons (o := ⟨none, _, _, _, _, _⟩) rfl (fun K hK => ?_) AllReadyH.nil
          go_simp
          refine hK.out _ _ (by (try dsimp only); (exact ⟨trivial, trivial⟩)) (fun hHeld => ?_)
          clear hK K
          (try simp only [Act.put, List.setIfInBounds_toArray, List.set_cons_zero, List.set_cons_succ])
          refine wpAnyH_done (by kernel_rfl) ?_ _
          have HKL8 : Hid ((ks ++ [⟨#[107]⟩ ++ SD]).length = i + 1) := by show _ = _; rw [List.length_append, HKL.out]; rfl
          obtain ⟨V, hV⟩ : ∃ V : World, V = w7.setCell ⟨g, 5, none⟩ (.slice A7 (i + 1) c7) := ⟨_, rfl⟩
          rw [← hV] at HC8
          rw [← hV]
          clear hV c0 c1 c2 c3 c4 c5 lc fc
          obtain ⟨c0, c1, c2, c3, c4, c5⟩ := At.z6 HC8.out.blk.at0
          have lc := HC8.out.blk.lt
          have fc := HC8.out.blk.free
          have hmu : (10 : Int) * (i : Int) ≤ 100 := by omega
          have hmu0 : 0 ≤ (10 : Int) * (i : Int) := by omega
          go_wp2_with (at_builtin; have HC9 := hide (HC8.out.step (w2 := V.alloc (.cells #[.int .i64 2, .bool false, .int .i64 (10 * (i : Int)), .string ⟨#[]⟩, .slice none 0 0, .slice none 0 0] 25))); refine wpList_append_slB rfl (.tmp 41) (.tmp 45) 22 rfl eiJ (base := g + 1) (xs := l.map T.cells) rfl HC9.out.ol (tree_fit _) (ad := ⟨V.heap.size, 0, none⟩) (c := 1) (y := [.int .i64 2, .bool false, .int .i64 (10 * (i : Int)), .string ⟨#[]⟩, .slice none 0 0, .slice none 0 0]) rfl (cells_at V [.int .i64 2, .bool false, .int .i64 (10 * (i : Int)), .string ⟨#[]⟩, .slice none 0 0, .slice none 0 0] 25) (tree_fit [.mk 2 false (10 * (i : Int)) ⟨#[]⟩ none 0 [] none 0 []]) (by rw [List.length_map, HLL.out]; omega) HC9.out.size (N := i + 1) (by rw [List.length_map, HLL.out]) ?_; intro A9 c9 w9 ho9 hg9 hb9 hA9; have HC10 := hide (HC9.out.addL (t := .mk 2 false (10 * (i : Int)) ⟨#[]⟩ none 0 [] none 0 []) (TAt.leaf _ _ _ _ _ _) hg9 ho9 hA9); have hb9_ := HC9.out.blk.grown hg9 (by intro e; have := (HC9.out.ol.lt _ e.symm).1; omega); clear ho9 hg9 hb9 hA9 c0 c1 c2 c3 c4 c5 lc fc; obtain ⟨c0, c1, c2, c3, c4, c5⟩ := At.z6 hb9_.at0; have lc := hb9_.lt; have fc := hb9_.free; clear hb9_)
          go_roundw
          case rel => exact ⟨i + 1, c9, c7, A9, A7, l ++ [.mk 2 false (10 * (i : Int)) ⟨#[]⟩ none 0 [] none 0 []], ks ++ [⟨#[107]⟩ ++ SD], by omega, by go_num, ⟨by rw [js_app, HLK.out.1, List.range_succ, List.map_append]; rfl, by rw [HKS.out, HLK.out.2.1, List.range_succ, List.map_append]; rfl, by rw [List.length_append, HLL.out]; rfl, HKL8.out⟩, HC10.out⟩
          case measure => simp [intOf]; omega
    · obtain rfl : i = K := by omega
      clear hlt
      have hsw : Step w wo := HC.out.st
      have hV0 : IntKind.u64.wrap (i : Int) = (i : Int) := by rw [IntKind.wrap_u64]; omega
      obtain ⟨V, hV⟩ : ∃ V : Int, IntKind.u64.wrap at_ = V := ⟨_, rfl⟩
      have hVn : 0 ≤ V := by rw [← hV, IntKind.wrap_u64]; omega
      go_upto_region 11 with fail
      obtain ⟨q, hq, hqi⟩ : ∃ q : Nat, wrap64 (V % (i : Int)) = (q : Int) ∧ q < i := by
        have h1 := Int.emod_nonneg V (b := (i : Int)) (by omega)
        have h2 := Int.emod_lt_of_pos V (b := (i : Int)) (by omega)
        exact ⟨(V % (i : Int)).toNat, by unfold wrap64; omega, by omega⟩
      rw [hq]
      clear hq hV hV0 hVn
      have hq8 : q < 8 := by omega
      have HKJ : Hid (J.mk 5 false 0 ⟨#[]⟩ (T.js l) ks = kJ i) := by show _ = _; rw [HLK.out.1, HLK.out.2.1, kJ]
      have HRD : Hid (Rdd wo (kJ i) 5 false 0 ⟨#[]⟩ A i c AK i cK) := HC.out.rdd HLL.out HKL.out HKJ.out (fine_kJ i hK8)
      obtain ⟨kk1, kk2, kk3, kk4, kk5⟩ := keys_ok hK8 hqi
      obtain ⟨SD, hSD⟩ : ∃ S, ofL (Go.Lib.itoa (q : Int)) = S := ⟨_, rfl⟩
      have hSs : SD.size = 1 := by rw [← hSD, itoa_small hq8]; rfl
      have HKS : Hid (⟨#[107]⟩ ++ SD = kS q) := by show _ = _; rw [kS, hSD]
      have DQ := DC.out q hq8
      rw [hSD] at DQ
      have DQ := hide DQ
      have GT : Hid (∀ w' (hf : Fut wo w'), Calls Tryd.prog 17 #[.agg #[.int .i64 5, .bool false, .int .i64 0, .string ⟨#[]⟩, .slice A i c, .slice AK i cK], .string (⟨#[107]⟩ ++ SD)] w' fun e w'' => (∃ (k24 : Int) (b24 : Bool) (n24 : Int) (s24 : ByteArray) (A24 : Option Addr) (nl24 c24 : Nat) (AK24 : Option Addr) (nk24 cK24 : Nat), e = .returned (.tuple #[.agg #[.int .i64 k24, .bool b24, .int .i64 n24, .string s24, .slice A24 nl24 c24, .slice AK24 nk24 cK24], .bool true]) ∧ Hid (n24 = 10 * (q : Int))) ∧ Step w' w'') := fun w' hf => by
        have hst : Step wo w' := ⟨hf.below⟩
        have h := get_rdd wo HRD.out (kS q) w'
        rw [← HKS.out] at h kk1 kk2
        rw [kk2] at h
        exact h.mono fun e w'' hh => by
          obtain ⟨⟨k24, b24, n24, s24, A24, nl24, c24, AK24, nk24, cK24, h1, h2⟩, h3⟩ := hh
          exact ⟨⟨k24, b24, n24, s24, A24, nl24, c24, AK24, nk24, cK24, h1, h2.eqs.2.2.1.trans kk1⟩, h3⟩
      have GZ : Hid (∀ w' (hf : Fut wo w'), Calls Tryd.prog 17 #[.agg #[.int .i64 5, .bool false, .int .i64 0, .string ⟨#[]⟩, .slice A i c, .slice AK i cK], .string ⟨#[122, 122]⟩] w' fun e w'' => (∃ (k25 : Int) (b25 : Bool) (n25 : Int) (s25 : ByteArray) (A25 : Option Addr) (nl25 c25 : Nat) (AK25 : Option Addr) (nk25 cK25 : Nat), e = .returned (.tuple #[.agg #[.int .i64 k25, .bool b25, .int .i64 n25, .string s25, .slice A25 nl25 c25, .slice AK25 nk25 cK25], .bool false])) ∧ Step w' w'') := fun w' hf => by
        have hst : Step wo w' := ⟨hf.below⟩
        have h := get_rdd wo HRD.out ⟨#[122, 122]⟩ w'
        rw [kk3] at h
        exact h.mono fun e w'' hh => by
          obtain ⟨⟨k25, b25, n25, s25, A25, nl25, c25, AK25, nk25, cK25, h1, h2⟩, h3⟩ := hh
          exact ⟨⟨k25, b25, n25, s25, A25, nl25, c25, AK25, nk25, cK25, h1⟩, h3⟩
      have HK4 := hide kk4; have HK5 := hide kk5
      clear kk1 kk2 kk3 kk4 kk5 hSD
      go_cut [11, 12] from 54 to 61 (fun x11 x12 wx => ∃ gp : Nat, x11 = .pointer (some ⟨gp, 0, none⟩) ∧ x12 = .bool true ∧ wo.heap.size ≤ gp ∧ gp < wx.heap.size ∧ wx.cell? ⟨gp, 2, none⟩ = some (.int .i64 (10 * (q : Int))) ∧ Step wo wx)
      case first =>
        refine wp_region_held_drew (S := (fun _ => True ∧ True)) (by kernel_rfl) (by (try dsimp only); (exact ⟨trivial, trivial⟩)) (fun hHeld => ?_)
        refine wpAnyH_take (i := 1) (oi := ⟨some 56, _, _, _, _, _⟩) (v := ?_) rfl (by kernel_rfl) (by kernel_rfl) (by kernel_rfl) (fun _ _ _ h => h) (Or.inl ⟨by rfl, ?_⟩) (by assumption) ?_
        rotate_left
        · ((intro w hSw); (try dsimp only at hSw); go_simp; (try with_reducible rfl))
        (try simp only [Act.put, List.setIfInBounds_toArray, List.set_cons_zero, List.set_cons_succ])
        refine wpAnyH_ready (rs := [0, 2, 8]) (by kernel_rfl) (by simp) ?_
        refine AllReadyH.cons (o := ⟨some 55, _, _, _, _, _⟩) rfl (fun K hK => ?_) (AllReadyH.cons (o := ⟨some 57, _, _, _, _, _⟩) rfl (fun K hK => ?_) (AllReadyH.cons (o := ⟨some 11, _, _, _, _, _⟩) rfl (fun K hK => ?_) AllReadyH.nil))
        · go_simp
          refine hK.out _ _ (by (try dsimp only); (exact ⟨trivial, trivial⟩)) (fun hHeld => ?_)
          clear hK K
          (try simp only [Act.put, List.setIfInBounds_toArray, List.set_cons_zero, List.set_cons_succ])
          refine wpAnyH_ready (rs := [2, 8]) (by kernel_rfl) (by simp) ?_
          refine AllReadyH.cons (o := ⟨some 57, _, _, _, _, _⟩) rfl (fun K hK => ?_) (AllReadyH.cons (o := ⟨some 11, _, _, _, _, _⟩) rfl (fun K hK => ?_) AllReadyH.nil)
          · obtain ⟨hS1, hS2⟩ := hHeld
            go_simp
            (go_at_call 18; (with_reducible refine (DQ.out _).mono ?_); rintro e wq5 ⟨rfl, hs5⟩; clear c0 c1 c2 c3 c4 c5 lc fc; obtain ⟨c0, c1, c2, c3, c4, c5⟩ := At.z6 (HC.out.blk.fut (w' := wq5)).at0; have lc := (HC.out.blk.fut (w' := wq5)).lt; have fc := (HC.out.blk.fut (w' := wq5)).free; (try (have hx_ := HXB.out.fut (w' := wq5); clear HXB; have HXB := hide hx_; clear hx_)))
            refine hK.out _ _ (by (try dsimp only); (exact ⟨trivial, trivial⟩)) (fun hHeld => ?_)
            clear hK K
            (try simp only [Act.put, List.setIfInBounds_toArray, List.set_cons_zero, List.set_cons_succ])
            refine wpAnyH_take (i := 3) (oi := ⟨some 58, _, _, _, _, _⟩) (v := ?_) rfl (by kernel_rfl) (by kernel_rfl) (by kernel_rfl) (fun _ _ _ h => h) (Or.inl ⟨by rfl, ?_⟩) (by assumption) ?_
            rotate_left
            · ((intro w hSw); (try dsimp only at hSw); go_simp; (try with_reducible rfl))
            (try simp only [Act.put, List.setIfInBounds_toArray, List.set_cons_zero, List.set_cons_succ])
            refine wpAnyH_ready (rs := [4, 8]) (by kernel_rfl) (by simp) ?_
            refine AllReadyH.cons (o := ⟨some 59, _, _, _, _, _⟩) rfl (fun K hK => ?_) (AllReadyH.cons (o := ⟨some 11, _, _, _, _, _⟩) rfl (fun K hK => ?_) AllReadyH.nil)
            · obtain ⟨hS1, hS2⟩ := hHeld
              go_simp
              (go_at_call 17; (with_reducible refine (GT.out _ inferInstance).mono ?_); rintro e wq6 ⟨⟨k24, b24, n24, s24, A24, nl24, c24, AK24, nk24, cK24, rfl, HN4⟩, hs6⟩; clear c0 c1 c2 c3 c4 c5 lc fc; obtain ⟨c0, c1, c2, c3, c4, c5⟩ := At.z6 (HC.out.blk.fut (w' := wq6)).at0; have lc := (HC.out.blk.fut (w' := wq6)).lt; have fc := (HC.out.blk.fut (w' := wq6)).free; (try (have hx_ := HXB.out.fut (w' := wq6); clear HXB; have HXB := hide hx_; clear hx_)))
              refine hK.out _ _ (by (try dsimp only); (exact ⟨trivial, trivial⟩)) (fun hHeld => ?_)
              clear hK K
              (try simp only [Act.put, List.setIfInBounds_toArray, List.set_cons_zero, List.set_cons_succ])
              refine wpAnyH_take (i := 5) (oi := ⟨some 54, _, _, _, _, _⟩) (v := ?_) rfl (by kernel_rfl) (by kernel_rfl) (by kernel_rfl) (fun _ _ _ h => h) (Or.inl ⟨by rfl, ?_⟩) (by assumption) ?_
              rotate_left
              · ((intro w hSw); (try dsimp only at hSw); go_simp; (try with_reducible rfl))
              (try simp only [Act.put, List.setIfInBounds_toArray, List.set_cons_zero, List.set_cons_succ])
              refine wpAnyH_take (i := 6) (oi := ⟨some 60, _, _, _, _, _⟩) (v := ?_) rfl (by kernel_rfl) (by kernel_rfl) (by kernel_rfl) (fun _ _ _ h => h) (Or.inl ⟨by rfl, ?_⟩) (by assumption) ?_
              rotate_left
              · ((intro w hSw); (try dsimp only at hSw); go_simp; (try with_reducible rfl))
              (try simp only [Act.put, List.setIfInBounds_toArray, List.set_cons_zero, List.set_cons_succ])
              refine wpAnyH_take (i := 7) (oi := ⟨some 61, _, _, _, _, _⟩) (v := ?_) rfl (by kernel_rfl) (by kernel_rfl) (by kernel_rfl) (fun _ _ _ h => h) (Or.inl ⟨by rfl, ?_⟩) (by assumption) ?_
              rotate_left
              · ((intro w hSw); (try dsimp only at hSw); go_simp; (try with_reducible rfl))
              (try simp only [Act.put, List.setIfInBounds_toArray, List.set_cons_zero, List.set_cons_succ])
              refine wpAnyH_ready (rs := [8]) (by kernel_rfl) (by simp) ?_
              refine AllReadyH.cons (o := ⟨some 11, _, _, _, _, _⟩) rfl (fun K hK => ?_) AllReadyH.nil
              ((first | (have HXB := hide (Blk.new wq6 [.int .i64 0, .bool false, .int .i64 0, .string ⟨#[]⟩, .slice none 0 0, .slice none 0 0] 25)) | (have HXB := hide (Blk.new wq5 [.int .i64 0, .bool false, .int .i64 0, .string ⟨#[]⟩, .slice none 0 0, .slice none 0 0] 25)) | (have HXB := hide (Blk.new wo [.int .i64 0, .bool false, .int .i64 0, .string ⟨#[]⟩, .slice none 0 0, .slice none 0 0] 25))); go_simp)
              refine hK.out _ _ (by (try dsimp only); (exact ⟨trivial, trivial⟩)) (fun hHeld => ?_)
              clear hK K
              (try simp only [Act.put, List.setIfInBounds_toArray, List.set_cons_zero, List.set_cons_succ])
              refine wpAnyH_ready (rs := [9]) (by kernel_rfl) (by simp) ?_
              refine AllReadyH.cons (o := ⟨none, _, _, _, _, _⟩) rfl (fun K hK => ?_) AllReadyH.nil
              (obtain ⟨z0, z1, z2, z3, z4, z5⟩ := At.z6 HXB.out.at0; have lz := HXB.out.lt; have fz := HXB.out.free; go_simp)
              refine hK.out _ _ (by (try dsimp only); (exact ⟨trivial, trivial⟩)) (fun hHeld => ?_)
              clear hK K
              (try simp only [Act.put, List.setIfInBounds_toArray, List.set_cons_zero, List.set_cons_succ])
              refine wpAnyH_take (i := 10) (oi := ⟨some 12, _, _, _, _, _⟩) (v := ?_) rfl (by kernel_rfl) (by kernel_rfl) (by kernel_rfl) (fun _ _ _ h => h) (Or.inl ⟨by rfl, ?_⟩) (by assumption) ?_
              rotate_left
              · ((intro w hSw); (try dsimp only at hSw); go_simp; (try with_reducible rfl))
              (try simp only [Act.put, List.setIfInBounds_toArray, List.set_cons_zero, List.set_cons_succ])
              refine wpAnyH_done (by kernel_rfl) ?_ _
              go_wp2_with fail
              go_meet
              case rel =>
                obtain rfl := HN4.out
                first
                  | (have k6 := Blk.new wq6 [.int .i64 k24, .bool b24, .int .i64 (10 * (q : Int)), .string s24, .slice A24 nl24 c24, .slice AK24 nk24 cK24] 25; have k7 := (At.z6 k6.at0).2.2.1; have k8 := k6.lt; with_reducible exact ⟨_, rfl, rfl, Newer.le, k8, k7, Step.of⟩)
                  | (have k6 := set6_blk HXB.out (.int .i64 k24) (.bool b24) (.int .i64 (10 * (q : Int))) (.string s24) (.slice A24 nl24 c24) (.slice AK24 nk24 cK24); have k7 := (At.z6 k6.at0).2.2.1; have k8 := k6.lt; unfold set6 at k7 k8; with_reducible exact ⟨_, rfl, rfl, Newer.le, k8, k7, Step.of⟩)
            · ((first | (have HXB := hide (Blk.new wq6 [.int .i64 0, .bool false, .int .i64 0, .string ⟨#[]⟩, .slice none 0 0, .slice none 0 0] 25)) | (have HXB := hide (Blk.new wq5 [.int .i64 0, .bool false, .int .i64 0, .string ⟨#[]⟩, .slice none 0 0, .slice none 0 0] 25)) | (have HXB := hide (Blk.new wo [.int .i64 0, .bool false, .int .i64 0, .string ⟨#[]⟩, .slice none 0 0, .slice none 0 0] 25))); go_simp)
              refine hK.out _ _ (by (try dsimp only); (exact ⟨trivial, trivial⟩)) (fun hHeld => ?_)
              clear hK K
              (try simp only [Act.put, List.setIfInBounds_toArray, List.set_cons_zero, List.set_cons_succ])
              refine wpAnyH_ready (rs := [4]) (by kernel_rfl) (by simp) ?_
              refine AllReadyH.cons (o := ⟨some 59, _, _, _, _, _⟩) rfl (fun K hK => ?_) AllReadyH.nil
              obtain ⟨hS1, hS2⟩ := hHeld
              go_simp
              (go_at_call 17; (with_reducible refine (GT.out _ inferInstance).mono ?_); rintro e wq6 ⟨⟨k24, b24, n24, s24, A24, nl24, c24, AK24, nk24, cK24, rfl, HN4⟩, hs6⟩; clear c0 c1 c2 c3 c4 c5 lc fc; obtain ⟨c0, c1, c2, c3, c4, c5⟩ := At.z6 (HC.out.blk.fut (w' := wq6)).at0; have lc := (HC.out.blk.fut (w' := wq6)).lt; have fc := (HC.out.blk.fut (w' := wq6)).free; (try (have hx_ := HXB.out.fut (w' := wq6); clear HXB; have HXB := hide hx_; clear hx_)))
              refine hK.out _ _ (by (try dsimp only); (exact ⟨trivial, trivial⟩)) (fun hHeld => ?_)
              clear hK K
              (try simp only [Act.put, List.setIfInBounds_toArray, List.set_cons_zero, List.set_cons_succ])
              refine wpAnyH_take (i := 5) (oi := ⟨some 54, _, _, _, _, _⟩) (v := ?_) rfl (by kernel_rfl) (by kernel_rfl) (by kernel_rfl) (fun _ _ _ h => h) (Or.inl ⟨by rfl, ?_⟩) (by assumption) ?_
              rotate_left
              · ((intro w hSw); (try dsimp only at hSw); go_simp; (try with_reducible rfl))
              (try simp only [Act.put, List.setIfInBounds_toArray, List.set_cons_zero, List.set_cons_succ])
              refine wpAnyH_take (i := 6) (oi := ⟨some 60, _, _, _, _, _⟩) (v := ?_) rfl (by kernel_rfl) (by kernel_rfl) (by kernel_rfl) (fun _ _ _ h => h) (Or.inl ⟨by rfl, ?_⟩) (by assumption) ?_
              rotate_left
              · ((intro w hSw); (try dsimp only at hSw); go_simp; (try with_reducible rfl))
              (try simp only [Act.put, List.setIfInBounds_toArray, List.set_cons_zero, List.set_cons_succ])
              refine wpAnyH_take (i := 7) (oi := ⟨some 61, _, _, _, _, _⟩) (v := ?_) rfl (by kernel_rfl) (by kernel_rfl) (by kernel_rfl) (fun _ _ _ h => h) (Or.inl ⟨by rfl, ?_⟩) (by assumption) ?_
              rotate_left
              · ((intro w hSw); (try dsimp only at hSw); go_simp; (try with_reducible rfl))
              (try simp only [Act.put, List.setIfInBounds_toArray, List.set_cons_zero, List.set_cons_succ])
              refine wpAnyH_ready (rs := [9]) (by kernel_rfl) (by simp) ?_
              refine AllReadyH.cons (o := ⟨none, _, _, _, _, _⟩) rfl (fun K hK => ?_) AllReadyH.nil
              (obtain ⟨z0, z1, z2, z3, z4, z5⟩ := At.z6 HXB.out.at0; have lz := HXB.out.lt; have fz := HXB.out.free; go_simp)
              refine hK.out _ _ (by (try dsimp only); (exact ⟨trivial, trivial⟩)) (fun hHeld => ?_)
              clear hK K
              (try simp only [Act.put, List.setIfInBounds_toArray, List.set_cons_zero, List.set_cons_succ])
              refine wpAnyH_take (i := 10) (oi := ⟨some 12, _, _, _, _, _⟩) (v := ?_) rfl (by kernel_rfl) (by kernel_rfl) (by kernel_rfl) (fun _ _ _ h => h) (Or.inl ⟨by rfl, ?_⟩) (by assumption) ?_
              rotate_left
              · ((intro w hSw); (try dsimp only at hSw); go_simp; (try with_reducible rfl))
              (try simp only [Act.put, List.setIfInBounds_toArray, List.set_cons_zero, List.set_cons_succ])
              refine wpAnyH_done (by kernel_rfl) ?_ _
              go_wp2_with fail
              go_meet
              case rel =>
                obtain rfl := HN4.out
                first
                  | (have k6 := Blk.new wq6 [.int .i64 k24, .bool b24, .int .i64 (10 * (q : Int)), .string s24, .slice A24 nl24 c24, .slice AK24 nk24 cK24] 25; have k7 := (At.z6 k6.at0).2.2.1; have k8 := k6.lt; with_reducible exact ⟨_, rfl, rfl, Newer.le, k8, k7, Step.of⟩)
                  | (have k6 := set6_blk HXB.out (.int .i64 k24) (.bool b24) (.int .i64 (10 * (q : Int))) (.string s24) (.slice A24 nl24 c24) (.slice AK24 nk24 cK24); have k7 := (At.z6 k6.at0).2.2.1; have k8 := k6.lt; unfold set6 at k7 k8; with_reducible exact ⟨_, rfl, rfl, Newer.le, k8, k7, Step.of⟩)
          · ((first | (have HXB := hide (Blk.new wq6 [.int .i64 0, .bool false, .int .i64 0, .string ⟨#[]⟩, .slice none 0 0, .slice none 0 0] 25)) | (have HXB := hide (Blk.new wq5 [.int .i64 0, .bool false, .int .i64 0, .string ⟨#[]⟩, .slice none 0 0, .slice none 0 0] 25)) | (have HXB := hide (Blk.new wo [.int .i64 0, .bool false, .int .i64 0, .string ⟨#[]⟩, .slice none 0 0, .slice none 0 0] 25))); go_simp)
            refine hK.out _ _ (by (try dsimp only); (exact ⟨trivial, trivial⟩)) (fun hHeld => ?_)
            clear hK K
            (try simp only [Act.put, List.setIfInBounds_toArray, List.set_cons_zero, List.set_cons_succ])
            refine wpAnyH_ready (rs := [2]) (by kernel_rfl) (by simp) ?_
            refine AllReadyH.cons (o := ⟨some 57, _, _, _, _, _⟩) rfl (fun K hK => ?_) AllReadyH.nil
            obtain ⟨hS1, hS2⟩ := hHeld
            go_simp
            (go_at_call 18; (with_reducible refine (DQ.out _).mono ?_); rintro e wq5 ⟨rfl, hs5⟩; clear c0 c1 c2 c3 c4 c5 lc fc; obtain ⟨c0, c1, c2, c3, c4, c5⟩ := At.z6 (HC.out.blk.fut (w' := wq5)).at0; have lc := (HC.out.blk.fut (w' := wq5)).lt; have fc := (HC.out.blk.fut (w' := wq5)).free; (try (have hx_ := HXB.out.fut (w' := wq5); clear HXB; have HXB := hide hx_; clear hx_)))
            refine hK.out _ _ (by (try dsimp only); (exact ⟨trivial, trivial⟩)) (fun hHeld => ?_)
            clear hK K
            (try simp only [Act.put, List.setIfInBounds_toArray, List.set_cons_zero, List.set_cons_succ])
            refine wpAnyH_take (i := 3) (oi := ⟨some 58, _, _, _, _, _⟩) (v := ?_) rfl (by kernel_rfl) (by kernel_rfl) (by kernel_rfl) (fun _ _ _ h => h) (Or.inl ⟨by rfl, ?_⟩) (by assumption) ?_
            rotate_left
            · ((intro w hSw); (try dsimp only at hSw); go_simp; (try with_reducible rfl))
            (try simp only [Act.put, List.setIfInBounds_toArray, List.set_cons_zero, List.set_cons_succ])
            refine wpAnyH_ready (rs := [4]) (by kernel_rfl) (by simp) ?_
            refine AllReadyH.cons (o := ⟨some 59, _, _, _, _, _⟩) rfl (fun K hK => ?_) AllReadyH.nil
            obtain ⟨hS1, hS2⟩ := hHeld
            go_simp
            (go_at_call 17; (with_reducible refine (GT.out _ inferInstance).mono ?_); rintro e wq6 ⟨⟨k24, b24, n24, s24, A24, nl24, c24, AK24, nk24, cK24, rfl, HN4⟩, hs6⟩; clear c0 c1 c2 c3 c4 c5 lc fc; obtain ⟨c0, c1, c2, c3, c4, c5⟩ := At.z6 (HC.out.blk.fut (w' := wq6)).at0; have lc := (HC.out.blk.fut (w' := wq6)).lt; have fc := (HC.out.blk.fut (w' := wq6)).free; (try (have hx_ := HXB.out.fut (w' := wq6); clear HXB; have HXB := hide hx_; clear hx_)))
            refine hK.out _ _ (by (try dsimp only); (exact ⟨trivial, trivial⟩)) (fun hHeld => ?_)
            clear hK K
            (try simp only [Act.put, List.setIfInBounds_toArray, List.set_cons_zero, List.set_cons_succ])
            refine wpAnyH_take (i := 5) (oi := ⟨some 54, _, _, _, _, _⟩) (v := ?_) rfl (by kernel_rfl) (by kernel_rfl) (by kernel_rfl) (fun _ _ _ h => h) (Or.inl ⟨by rfl, ?_⟩) (by assumption) ?_
            rotate_left
            · ((intro w hSw); (try dsimp only at hSw); go_simp; (try with_reducible rfl))
            (try simp only [Act.put, List.setIfInBounds_toArray, List.set_cons_zero, List.set_cons_succ])
            refine wpAnyH_take (i := 6) (oi := ⟨some 60, _, _, _, _, _⟩) (v := ?_) rfl (by kernel_rfl) (by kernel_rfl) (by kernel_rfl) (fun _ _ _ h => h) (Or.inl ⟨by rfl, ?_⟩) (by assumption) ?_
            rotate_left
            · ((intro w hSw); (try dsimp only at hSw); go_simp; (try with_reducible rfl))
            (try simp only [Act.put, List.setIfInBounds_toArray, List.set_cons_zero, List.set_cons_succ])
            refine wpAnyH_take (i := 7) (oi := ⟨some 61, _, _, _, _, _⟩) (v := ?_) rfl (by kernel_rfl) (by kernel_rfl) (by kernel_rfl) (fun _ _ _ h => h) (Or.inl ⟨by rfl, ?_⟩) (by assumption) ?_
            rotate_left
            · ((intro w hSw); (try dsimp only at hSw); go_simp; (try with_reducible rfl))
            (try simp only [Act.put, List.setIfInBounds_toArray, List.set_cons_zero, List.set_cons_succ])
            refine wpAnyH_ready (rs := [9]) (by kernel_rfl) (by simp) ?_
            refine AllReadyH.cons (o := ⟨none, _, _, _, _, _⟩) rfl (fun K hK => ?_) AllReadyH.nil
            (obtain ⟨z0, z1, z2, z3, z4, z5⟩ := At.z6 HXB.out.at0; have lz := HXB.out.lt; have fz := HXB.out.free; go_simp)
            refine hK.out _ _ (by (try dsimp only); (exact ⟨trivial, trivial⟩)) (fun hHeld => ?_)
            clear hK K
            (try simp only [Act.put, List.setIfInBounds_toArray, List.set_cons_zero, List.set_cons_succ])
            refine wpAnyH_take (i := 10) (oi := ⟨some 12, _, _, _, _, _⟩) (v := ?_) rfl (by kernel_rfl) (by kernel_rfl) (by kernel_rfl) (fun _ _ _ h => h) (Or.inl ⟨by rfl, ?_⟩) (by assumption) ?_
            rotate_left
            · ((intro w hSw); (try dsimp only at hSw); go_simp; (try with_reducible rfl))
            (try simp only [Act.put, List.setIfInBounds_toArray, List.set_cons_zero, List.set_cons_succ])
            refine wpAnyH_done (by kernel_rfl) ?_ _
            go_wp2_with fail
            go_meet
            case rel =>
              obtain rfl := HN4.out
              first
                | (have k6 := Blk.new wq6 [.int .i64 k24, .bool b24, .int .i64 (10 * (q : Int)), .string s24, .slice A24 nl24 c24, .slice AK24 nk24 cK24] 25; have k7 := (At.z6 k6.at0).2.2.1; have k8 := k6.lt; with_reducible exact ⟨_, rfl, rfl, Newer.le, k8, k7, Step.of⟩)
                | (have k6 := set6_blk HXB.out (.int .i64 k24) (.bool b24) (.int .i64 (10 * (q : Int))) (.string s24) (.slice A24 nl24 c24) (.slice AK24 nk24 cK24); have k7 := (At.z6 k6.at0).2.2.1; have k8 := k6.lt; unfold set6 at k7 k8; with_reducible exact ⟨_, rfl, rfl, Newer.le, k8, k7, Step.of⟩)
        · obtain ⟨hS1, hS2⟩ := hHeld
          go_simp
          (go_at_call 18; (with_reducible refine (DQ.out _).mono ?_); rintro e wq5 ⟨rfl, hs5⟩; clear c0 c1 c2 c3 c4 c5 lc fc; obtain ⟨c0, c1, c2, c3, c4, c5⟩ := At.z6 (HC.out.blk.fut (w' := wq5)).at0; have lc := (HC.out.blk.fut (w' := wq5)).lt; have fc := (HC.out.blk.fut (w' := wq5)).free; (try (have hx_ := HXB.out.fut (w' := wq5); clear HXB; have HXB := hide hx_; clear hx_)))
          refine hK.out _ _ (by (try dsimp only); (exact ⟨trivial, trivial⟩)) (fun hHeld => ?_)
          clear hK K
          (try simp only [Act.put, List.setIfInBounds_toArray, List.set_cons_zero, List.set_cons_succ])
          refine wpAnyH_take (i := 3) (oi := ⟨some 58, _, _, _, _, _⟩) (v := ?_) rfl (by kernel_rfl) (by kernel_rfl) (by kernel_rfl) (fun _ _ _ h => h) (Or.inl ⟨by rfl, ?_⟩) (by assumption) ?_
          rotate_left
          · ((intro w hSw); (try dsimp only at hSw); go_simp; (try with_reducible rfl))
          (try simp only [Act.put, List.setIfInBounds_toArray, List.set_cons_zero, List.set_cons_succ])
          refine wpAnyH_ready (rs := [0, 8]) (by kernel_rfl) (by simp) ?_
          refine AllReadyH.cons (o := ⟨some 55, _, _, _, _, _⟩) rfl (fun K hK => ?_) (AllReadyH.cons (o := ⟨some 11, _, _, _, _, _⟩) rfl (fun K hK => ?_) AllReadyH.nil)
          · go_simp
            refine hK.out _ _ (by (try dsimp only); (exact ⟨trivial, trivial⟩)) (fun hHeld => ?_)
            clear hK K
            (try simp only [Act.put, List.setIfInBounds_toArray, List.set_cons_zero, List.set_cons_succ])
            refine wpAnyH_ready (rs := [4, 8]) (by kernel_rfl) (by simp) ?_
            refine AllReadyH.cons (o := ⟨some 59, _, _, _, _, _⟩) rfl (fun K hK => ?_) (AllReadyH.cons (o := ⟨some 11, _, _, _, _, _⟩) rfl (fun K hK => ?_) AllReadyH.nil)
            · obtain ⟨hS1, hS2⟩ := hHeld
              go_simp
              (go_at_call 17; (with_reducible refine (GT.out _ inferInstance).mono ?_); rintro e wq6 ⟨⟨k24, b24, n24, s24, A24, nl24, c24, AK24, nk24, cK24, rfl, HN4⟩, hs6⟩; clear c0 c1 c2 c3 c4 c5 lc fc; obtain ⟨c0, c1, c2, c3, c4, c5⟩ := At.z6 (HC.out.blk.fut (w' := wq6)).at0; have lc := (HC.out.blk.fut (w' := wq6)).lt; have fc := (HC.out.blk.fut (w' := wq6)).free; (try (have hx_ := HXB.out.fut (w' := wq6); clear HXB; have HXB := hide hx_; clear hx_)))
              refine hK.out _ _ (by (try dsimp only); (exact ⟨trivial, trivial⟩)) (fun hHeld => ?_)
              clear hK K
              (try simp only [Act.put, List.setIfInBounds_toArray, List.set_cons_zero, List.set_cons_succ])
              refine wpAnyH_take (i := 5) (oi := ⟨some 54, _, _, _, _, _⟩) (v := ?_) rfl (by kernel_rfl) (by kernel_rfl) (by kernel_rfl) (fun _ _ _ h => h) (Or.inl ⟨by rfl, ?_⟩) (by assumption) ?_
              rotate_left
              · ((intro w hSw); (try dsimp only at hSw); go_simp; (try with_reducible rfl))
              (try simp only [Act.put, List.setIfInBounds_toArray, List.set_cons_zero, List.set_cons_succ])
              refine wpAnyH_take (i := 6) (oi := ⟨some 60, _, _, _, _, _⟩) (v := ?_) rfl (by kernel_rfl) (by kernel_rfl) (by kernel_rfl) (fun _ _ _ h => h) (Or.inl ⟨by rfl, ?_⟩) (by assumption) ?_
              rotate_left
              · ((intro w hSw); (try dsimp only at hSw); go_simp; (try with_reducible rfl))
              (try simp only [Act.put, List.setIfInBounds_toArray, List.set_cons_zero, List.set_cons_succ])
              refine wpAnyH_take (i := 7) (oi := ⟨some 61, _, _, _, _, _⟩) (v := ?_) rfl (by kernel_rfl) (by kernel_rfl) (by kernel_rfl) (fun _ _ _ h => h) (Or.inl ⟨by rfl, ?_⟩) (by assumption) ?_
              rotate_left
              · ((intro w hSw); (try dsimp only at hSw); go_simp; (try with_reducible rfl))
              (try simp only [Act.put, List.setIfInBounds_toArray, List.set_cons_zero, List.set_cons_succ])
              refine wpAnyH_ready (rs := [8]) (by kernel_rfl) (by simp) ?_
              refine AllReadyH.cons (o := ⟨some 11, _, _, _, _, _⟩) rfl (fun K hK => ?_) AllReadyH.nil
              ((first | (have HXB := hide (Blk.new wq6 [.int .i64 0, .bool false, .int .i64 0, .string ⟨#[]⟩, .slice none 0 0, .slice none 0 0] 25)) | (have HXB := hide (Blk.new wq5 [.int .i64 0, .bool false, .int .i64 0, .string ⟨#[]⟩, .slice none 0 0, .slice none 0 0] 25)) | (have HXB := hide (Blk.new wo [.int .i64 0, .bool false, .int .i64 0, .string ⟨#[]⟩, .slice none 0 0, .slice none 0 0] 25))); go_simp)
              refine hK.out _ _ (by (try dsimp only); (exact ⟨trivial, trivial⟩)) (fun hHeld => ?_)
              clear hK K
              (try simp only [Act.put, List.setIfInBounds_toArray, List.set_cons_zero, List.set_cons_succ])
              refine wpAnyH_ready (rs := [9]) (by kernel_rfl) (by simp) ?_
              refine AllReadyH.cons (o := ⟨none, _, _, _, _, _⟩) rfl (fun K hK => ?_) AllReadyH.nil
              (obtain ⟨z0, z1, z2, z3, z4, z5⟩ := At.z6 HXB.out.at0; have lz := HXB.out.lt; have fz := HXB.out.free; go_simp)
              refine hK.out _ _ (by (try dsimp only); (exact ⟨trivial, trivial⟩)) (fun hHeld => ?_)
              clear hK K
              (try simp only [Act.put, List.setIfInBounds_toArray, List.set_cons_zero, List.set_cons_succ])
              refine wpAnyH_take (i := 10) (oi := ⟨some 12, _, _, _, _, _⟩) (v := ?_) rfl (by kernel_rfl) (by kernel_rfl) (by kernel_rfl) (fun _ _ _ h => h) (Or.inl ⟨by rfl, ?_⟩) (by assumption) ?_
              rotate_left
              · ((intro w hSw); (try dsimp only at hSw); go_simp; (try with_reducible rfl))
              (try simp only [Act.put, List.setIfInBounds_toArray, List.set_cons_zero, List.set_cons_succ])
              refine wpAnyH_done (by kernel_rfl) ?_ _
              go_wp2_with fail
              go_meet
              case rel =>
                obtain rfl := HN4.out
                first
                  | (have k6 := Blk.new wq6 [.int .i64 k24, .bool b24, .int .i64 (10 * (q : Int)), .string s24, .slice A24 nl24 c24, .slice AK24 nk24 cK24] 25; have k7 := (At.z6 k6.at0).2.2.1; have k8 := k6.lt; with_reducible exact ⟨_, rfl, rfl, Newer.le, k8, k7, Step.of⟩)
                  | (have k6 := set6_blk HXB.out (.int .i64 k24) (.bool b24) (.int .i64 (10 * (q : Int))) (.string s24) (.slice A24 nl24 c24) (.slice AK24 nk24 cK24); have k7 := (At.z6 k6.at0).2.2.1; have k8 := k6.lt; unfold set6 at k7 k8; with_reducible exact ⟨_, rfl, rfl, Newer.le, k8, k7, Step.of⟩)
            · ((first | (have HXB := hide (Blk.new wq6 [.int .i64 0, .bool false, .int .i64 0, .string ⟨#[]⟩, .slice none 0 0, .slice none 0 0] 25)) | (have HXB := hide (Blk.new wq5 [.int .i64 0, .bool false, .int .i64 0, .string ⟨#[]⟩, .slice none 0 0, .slice none 0 0] 25)) | (have HXB := hide (Blk.new wo [.int .i64 0, .bool false, .int .i64 0, .string ⟨#[]⟩, .slice none 0 0, .slice none 0 0] 25))); go_simp)
              refine hK.out _ _ (by (try dsimp only); (exact ⟨trivial, trivial⟩)) (fun hHeld => ?_)
              clear hK K
              (try simp only [Act.put, List.setIfInBounds_toArray, List.set_cons_zero, List.set_cons_succ])
              refine wpAnyH_ready (rs := [4]) (by kernel_rfl) (by simp) ?_
              refine AllReadyH.cons (o := ⟨some 59, _, _, _, _, _⟩) rfl (fun K hK => ?_) AllReadyH.nil
              obtain ⟨hS1, hS2⟩ := hHeld
              go_simp
              (go_at_call 17; (with_reducible refine (GT.out _ inferInstance).mono ?_); rintro e wq6 ⟨⟨k24, b24, n24, s24, A24, nl24, c24, AK24, nk24, cK24, rfl, HN4⟩, hs6⟩; clear c0 c1 c2 c3 c4 c5 lc fc; obtain ⟨c0, c1, c2, c3, c4, c5⟩ := At.z6 (HC.out.blk.fut (w' := wq6)).at0; have lc := (HC.out.blk.fut (w' := wq6)).lt; have fc := (HC.out.blk.fut (w' := wq6)).free; (try (have hx_ := HXB.out.fut (w' := wq6); clear HXB; have HXB := hide hx_; clear hx_)))
              refine hK.out _ _ (by (try dsimp only); (exact ⟨trivial, trivial⟩)) (fun hHeld => ?_)
              clear hK K
              (try simp only [Act.put, List.setIfInBounds_toArray, List.set_cons_zero, List.set_cons_succ])
              refine wpAnyH_take (i := 5) (oi := ⟨some 54, _, _, _, _, _⟩) (v := ?_) rfl (by kernel_rfl) (by kernel_rfl) (by kernel_rfl) (fun _ _ _ h => h) (Or.inl ⟨by rfl, ?_⟩) (by assumption) ?_
              rotate_left
              · ((intro w hSw); (try dsimp only at hSw); go_simp; (try with_reducible rfl))
              (try simp only [Act.put, List.setIfInBounds_toArray, List.set_cons_zero, List.set_cons_succ])
              refine wpAnyH_take (i := 6) (oi := ⟨some 60, _, _, _, _, _⟩) (v := ?_) rfl (by kernel_rfl) (by kernel_rfl) (by kernel_rfl) (fun _ _ _ h => h) (Or.inl ⟨by rfl, ?_⟩) (by assumption) ?_
              rotate_left
              · ((intro w hSw); (try dsimp only at hSw); go_simp; (try with_reducible rfl))
              (try simp only [Act.put, List.setIfInBounds_toArray, List.set_cons_zero, List.set_cons_succ])
              refine wpAnyH_take (i := 7) (oi := ⟨some 61, _, _, _, _, _⟩) (v := ?_) rfl (by kernel_rfl) (by kernel_rfl) (by kernel_rfl) (fun _ _ _ h => h) (Or.inl ⟨by rfl, ?_⟩) (by assumption) ?_
              rotate_left
              · ((intro w hSw); (try dsimp only at hSw); go_simp; (try with_reducible rfl))
              (try simp only [Act.put, List.setIfInBounds_toArray, List.set_cons_zero, List.set_cons_succ])
              refine wpAnyH_ready (rs := [9]) (by kernel_rfl) (by simp) ?_
              refine AllReadyH.cons (o := ⟨none, _, _, _, _, _⟩) rfl (fun K hK => ?_) AllReadyH.nil
              (obtain ⟨z0, z1, z2, z3, z4, z5⟩ := At.z6 HXB.out.at0; have lz := HXB.out.lt; have fz := HXB.out.free; go_simp)
              refine hK.out _ _ (by (try dsimp only); (exact ⟨trivial, trivial⟩)) (fun hHeld => ?_)
              clear hK K
              (try simp only [Act.put, List.setIfInBounds_toArray, List.set_cons_zero, List.set_cons_succ])
              refine wpAnyH_take (i := 10) (oi := ⟨some 12, _, _, _, _, _⟩) (v := ?_) rfl (by kernel_rfl) (by kernel_rfl) (by kernel_rfl) (fun _ _ _ h => h) (Or.inl ⟨by rfl, ?_⟩) (by assumption) ?_
              rotate_left
              · ((intro w hSw); (try dsimp only at hSw); go_simp; (try with_reducible rfl))
              (try simp only [Act.put, List.setIfInBounds_toArray, List.set_cons_zero, List.set_cons_succ])
              refine wpAnyH_done (by kernel_rfl) ?_ _
              go_wp2_with fail
              go_meet
              case rel =>
                obtain rfl := HN4.out
                first
                  | (have k6 := Blk.new wq6 [.int .i64 k24, .bool b24, .int .i64 (10 * (q : Int)), .string s24, .slice A24 nl24 c24, .slice AK24 nk24 cK24] 25; have k7 := (At.z6 k6.at0).2.2.1; have k8 := k6.lt; with_reducible exact ⟨_, rfl, rfl, Newer.le, k8, k7, Step.of⟩)
                  | (have k6 := set6_blk HXB.out (.int .i64 k24) (.bool b24) (.int .i64 (10 * (q : Int))) (.string s24) (.slice A24 nl24 c24) (.slice AK24 nk24 cK24); have k7 := (At.z6 k6.at0).2.2.1; have k8 := k6.lt; unfold set6 at k7 k8; with_reducible exact ⟨_, rfl, rfl, Newer.le, k8, k7, Step.of⟩)
          · ((first | (have HXB := hide (Blk.new wq6 [.int .i64 0, .bool false, .int .i64 0, .string ⟨#[]⟩, .slice none 0 0, .slice none 0 0] 25)) | (have HXB := hide (Blk.new wq5 [.int .i64 0, .bool false, .int .i64 0, .string ⟨#[]⟩, .slice none 0 0, .slice none 0 0] 25)) | (have HXB := hide (Blk.new wo [.int .i64 0, .bool false, .int .i64 0, .string ⟨#[]⟩, .slice none 0 0, .slice none 0 0] 25))); go_simp)
            refine hK.out _ _ (by (try dsimp only); (exact ⟨trivial, trivial⟩)) (fun hHeld => ?_)
            clear hK K
            (try simp only [Act.put, List.setIfInBounds_toArray, List.set_cons_zero, List.set_cons_succ])
            refine wpAnyH_ready (rs := [0]) (by kernel_rfl) (by simp) ?_
            refine AllReadyH.cons (o := ⟨some 55, _, _, _, _, _⟩) rfl (fun K hK => ?_) AllReadyH.nil
            go_simp
            refine hK.out _ _ (by (try dsimp only); (exact ⟨trivial, trivial⟩)) (fun hHeld => ?_)
            clear hK K
            (try simp only [Act.put, List.setIfInBounds_toArray, List.set_cons_zero, List.set_cons_succ])
            refine wpAnyH_ready (rs := [4]) (by kernel_rfl) (by simp) ?_
            refine AllReadyH.cons (o := ⟨some 59, _, _, _, _, _⟩) rfl (fun K hK => ?_) AllReadyH.nil
            obtain ⟨hS1, hS2⟩ := hHeld
            go_simp
            (go_at_call 17; (with_reducible refine (GT.out _ inferInstance).mono ?_); rintro e wq6 ⟨⟨k24, b24, n24, s24, A24, nl24, c24, AK24, nk24, cK24, rfl, HN4⟩, hs6⟩; clear c0 c1 c2 c3 c4 c5 lc fc; obtain ⟨c0, c1, c2, c3, c4, c5⟩ := At.z6 (HC.out.blk.fut (w' := wq6)).at0; have lc := (HC.out.blk.fut (w' := wq6)).lt; have fc := (HC.out.blk.fut (w' := wq6)).free; (try (have hx_ := HXB.out.fut (w' := wq6); clear HXB; have HXB := hide hx_; clear hx_)))
            refine hK.out _ _ (by (try dsimp only); (exact ⟨trivial, trivial⟩)) (fun hHeld => ?_)
            clear hK K
            (try simp only [Act.put, List.setIfInBounds_toArray, List.set_cons_zero, List.set_cons_succ])
            refine wpAnyH_take (i := 5) (oi := ⟨some 54, _, _, _, _, _⟩) (v := ?_) rfl (by kernel_rfl) (by kernel_rfl) (by kernel_rfl) (fun _ _ _ h => h) (Or.inl ⟨by rfl, ?_⟩) (by assumption) ?_
            rotate_left
            · ((intro w hSw); (try dsimp only at hSw); go_simp; (try with_reducible rfl))
            (try simp only [Act.put, List.setIfInBounds_toArray, List.set_cons_zero, List.set_cons_succ])
            refine wpAnyH_take (i := 6) (oi := ⟨some 60, _, _, _, _, _⟩) (v := ?_) rfl (by kernel_rfl) (by kernel_rfl) (by kernel_rfl) (fun _ _ _ h => h) (Or.inl ⟨by rfl, ?_⟩) (by assumption) ?_
            rotate_left
            · ((intro w hSw); (try dsimp only at hSw); go_simp; (try with_reducible rfl))
            (try simp only [Act.put, List.setIfInBounds_toArray, List.set_cons_zero, List.set_cons_succ])
            refine wpAnyH_take (i := 7) (oi := ⟨some 61, _, _, _, _, _⟩) (v := ?_) rfl (by kernel_rfl) (by kernel_rfl) (by kernel_rfl) (fun _ _ _ h => h) (Or.inl ⟨by rfl, ?_⟩) (by assumption) ?_
            rotate_left
            · ((intro w hSw); (try dsimp only at hSw); go_simp; (try with_reducible rfl))
            (try simp only [Act.put, List.setIfInBounds_toArray, List.set_cons_zero, List.set_cons_succ])
            refine wpAnyH_ready (rs := [9]) (by kernel_rfl) (by simp) ?_
            refine AllReadyH.cons (o := ⟨none, _, _, _, _, _⟩) rfl (fun K hK => ?_) AllReadyH.nil
            (obtain ⟨z0, z1, z2, z3, z4, z5⟩ := At.z6 HXB.out.at0; have lz := HXB.out.lt; have fz := HXB.out.free; go_simp)
            refine hK.out _ _ (by (try dsimp only); (exact ⟨trivial, trivial⟩)) (fun hHeld => ?_)
            clear hK K
            (try simp only [Act.put, List.setIfInBounds_toArray, List.set_cons_zero, List.set_cons_succ])
            refine wpAnyH_take (i := 10) (oi := ⟨some 12, _, _, _, _, _⟩) (v := ?_) rfl (by kernel_rfl) (by kernel_rfl) (by kernel_rfl) (fun _ _ _ h => h) (Or.inl ⟨by rfl, ?_⟩) (by assumption) ?_
            rotate_left
            · ((intro w hSw); (try dsimp only at hSw); go_simp; (try with_reducible rfl))
            (try simp only [Act.put, List.setIfInBounds_toArray, List.set_cons_zero, List.set_cons_succ])
            refine wpAnyH_done (by kernel_rfl) ?_ _
            go_wp2_with fail
            go_meet
            case rel =>
              obtain rfl := HN4.out
              first
                | (have k6 := Blk.new wq6 [.int .i64 k24, .bool b24, .int .i64 (10 * (q : Int)), .string s24, .slice A24 nl24 c24, .slice AK24 nk24 cK24] 25; have k7 := (At.z6 k6.at0).2.2.1; have k8 := k6.lt; with_reducible exact ⟨_, rfl, rfl, Newer.le, k8, k7, Step.of⟩)
                | (have k6 := set6_blk HXB.out (.int .i64 k24) (.bool b24) (.int .i64 (10 * (q : Int))) (.string s24) (.slice A24 nl24 c24) (.slice AK24 nk24 cK24); have k7 := (At.z6 k6.at0).2.2.1; have k8 := k6.lt; unfold set6 at k7 k8; with_reducible exact ⟨_, rfl, rfl, Newer.le, k8, k7, Step.of⟩)
        · ((first | (have HXB := hide (Blk.new wq6 [.int .i64 0, .bool false, .int .i64 0, .string ⟨#[]⟩, .slice none 0 0, .slice none 0 0] 25)) | (have HXB := hide (Blk.new wq5 [.int .i64 0, .bool false, .int .i64 0, .string ⟨#[]⟩, .slice none 0 0, .slice none 0 0] 25)) | (have HXB := hide (Blk.new wo [.int .i64 0, .bool false, .int .i64 0, .string ⟨#[]⟩, .slice none 0 0, .slice none 0 0] 25))); go_simp)
          refine hK.out _ _ (by (try dsimp only); (exact ⟨trivial, trivial⟩)) (fun hHeld => ?_)
          clear hK K
          (try simp only [Act.put, List.setIfInBounds_toArray, List.set_cons_zero, List.set_cons_succ])
          refine wpAnyH_ready (rs := [0, 2]) (by kernel_rfl) (by simp) ?_
          refine AllReadyH.cons (o := ⟨some 55, _, _, _, _, _⟩) rfl (fun K hK => ?_) (AllReadyH.cons (o := ⟨some 57, _, _, _, _, _⟩) rfl (fun K hK => ?_) AllReadyH.nil)
          · go_simp
            refine hK.out _ _ (by (try dsimp only); (exact ⟨trivial, trivial⟩)) (fun hHeld => ?_)
            clear hK K
            (try simp only [Act.put, List.setIfInBounds_toArray, List.set_cons_zero, List.set_cons_succ])
            refine wpAnyH_ready (rs := [2]) (by kernel_rfl) (by simp) ?_
            refine AllReadyH.cons (o := ⟨some 57, _, _, _, _, _⟩) rfl (fun K hK => ?_) AllReadyH.nil
            obtain ⟨hS1, hS2⟩ := hHeld
            go_simp
            (go_at_call 18; (with_reducible refine (DQ.out _).mono ?_); rintro e wq5 ⟨rfl, hs5⟩; clear c0 c1 c2 c3 c4 c5 lc fc; obtain ⟨c0, c1, c2, c3, c4, c5⟩ := At.z6 (HC.out.blk.fut (w' := wq5)).at0; have lc := (HC.out.blk.fut (w' := wq5)).lt; have fc := (HC.out.blk.fut (w' := wq5)).free; (try (have hx_ := HXB.out.fut (w' := wq5); clear HXB; have HXB := hide hx_; clear hx_)))
            refine hK.out _ _ (by (try dsimp only); (exact ⟨trivial, trivial⟩)) (fun hHeld => ?_)
            clear hK K
            (try simp only [Act.put, List.setIfInBounds_toArray, List.set_cons_zero, List.set_cons_succ])
            refine wpAnyH_take (i := 3) (oi := ⟨some 58, _, _, _, _, _⟩) (v := ?_) rfl (by kernel_rfl) (by kernel_rfl) (by kernel_rfl) (fun _ _ _ h => h) (Or.inl ⟨by rfl, ?_⟩) (by assumption) ?_
            rotate_left
            · ((intro w hSw); (try dsimp only at hSw); go_simp; (try with_reducible rfl))
            (try simp only [Act.put, List.setIfInBounds_toArray, List.set_cons_zero, List.set_cons_succ])
            refine wpAnyH_ready (rs := [4]) (by kernel_rfl) (by simp) ?_
            refine AllReadyH.cons (o := ⟨some 59, _, _, _, _, _⟩) rfl (fun K hK => ?_) AllReadyH.nil
            obtain ⟨hS1, hS2⟩ := hHeld
            go_simp
            (go_at_call 17; (with_reducible refine (GT.out _ inferInstance).mono ?_); rintro e wq6 ⟨⟨k24, b24, n24, s24, A24, nl24, c24, AK24, nk24, cK24, rfl, HN4⟩, hs6⟩; clear c0 c1 c2 c3 c4 c5 lc fc; obtain ⟨c0, c1, c2, c3, c4, c5⟩ := At.z6 (HC.out.blk.fut (w' := wq6)).at0; have lc := (HC.out.blk.fut (w' := wq6)).lt; have fc := (HC.out.blk.fut (w' := wq6)).free; (try (have hx_ := HXB.out.fut (w' := wq6); clear HXB; have HXB := hide hx_; clear hx_)))
            refine hK.out _ _ (by (try dsimp only); (exact ⟨trivial, trivial⟩)) (fun hHeld => ?_)
            clear hK K
            (try simp only [Act.put, List.setIfInBounds_toArray, List.set_cons_zero, List.set_cons_succ])
            refine wpAnyH_take (i := 5) (oi := ⟨some 54, _, _, _, _, _⟩) (v := ?_) rfl (by kernel_rfl) (by kernel_rfl) (by kernel_rfl) (fun _ _ _ h => h) (Or.inl ⟨by rfl, ?_⟩) (by assumption) ?_
            rotate_left
            · ((intro w hSw); (try dsimp only at hSw); go_simp; (try with_reducible rfl))
            (try simp only [Act.put, List.setIfInBounds_toArray, List.set_cons_zero, List.set_cons_succ])
            refine wpAnyH_take (i := 6) (oi := ⟨some 60, _, _, _, _, _⟩) (v := ?_) rfl (by kernel_rfl) (by kernel_rfl) (by kernel_rfl) (fun _ _ _ h => h) (Or.inl ⟨by rfl, ?_⟩) (by assumption) ?_
            rotate_left
            · ((intro w hSw); (try dsimp only at hSw); go_simp; (try with_reducible rfl))
            (try simp only [Act.put, List.setIfInBounds_toArray, List.set_cons_zero, List.set_cons_succ])
            refine wpAnyH_take (i := 7) (oi := ⟨some 61, _, _, _, _, _⟩) (v := ?_) rfl (by kernel_rfl) (by kernel_rfl) (by kernel_rfl) (fun _ _ _ h => h) (Or.inl ⟨by rfl, ?_⟩) (by assumption) ?_
            rotate_left
            · ((intro w hSw); (try dsimp only at hSw); go_simp; (try with_reducible rfl))
            (try simp only [Act.put, List.setIfInBounds_toArray, List.set_cons_zero, List.set_cons_succ])
            refine wpAnyH_ready (rs := [9]) (by kernel_rfl) (by simp) ?_
            refine AllReadyH.cons (o := ⟨none, _, _, _, _, _⟩) rfl (fun K hK => ?_) AllReadyH.nil
            (obtain ⟨z0, z1, z2, z3, z4, z5⟩ := At.z6 HXB.out.at0; have lz := HXB.out.lt; have fz := HXB.out.free; go_simp)
            refine hK.out _ _ (by (try dsimp only); (exact ⟨trivial, trivial⟩)) (fun hHeld => ?_)
            clear hK K
            (try simp only [Act.put, List.setIfInBounds_toArray, List.set_cons_zero, List.set_cons_succ])
            refine wpAnyH_take (i := 10) (oi := ⟨some 12, _, _, _, _, _⟩) (v := ?_) rfl (by kernel_rfl) (by kernel_rfl) (by kernel_rfl) (fun _ _ _ h => h) (Or.inl ⟨by rfl, ?_⟩) (by assumption) ?_
            rotate_left
            · ((intro w hSw); (try dsimp only at hSw); go_simp; (try with_reducible rfl))
            (try simp only [Act.put, List.setIfInBounds_toArray, List.set_cons_zero, List.set_cons_succ])
            refine wpAnyH_done (by kernel_rfl) ?_ _
            go_wp2_with fail
            go_meet
            case rel =>
              obtain rfl := HN4.out
              first
                | (have k6 := Blk.new wq6 [.int .i64 k24, .bool b24, .int .i64 (10 * (q : Int)), .string s24, .slice A24 nl24 c24, .slice AK24 nk24 cK24] 25; have k7 := (At.z6 k6.at0).2.2.1; have k8 := k6.lt; with_reducible exact ⟨_, rfl, rfl, Newer.le, k8, k7, Step.of⟩)
                | (have k6 := set6_blk HXB.out (.int .i64 k24) (.bool b24) (.int .i64 (10 * (q : Int))) (.string s24) (.slice A24 nl24 c24) (.slice AK24 nk24 cK24); have k7 := (At.z6 k6.at0).2.2.1; have k8 := k6.lt; unfold set6 at k7 k8; with_reducible exact ⟨_, rfl, rfl, Newer.le, k8, k7, Step.of⟩)
          · obtain ⟨hS1, hS2⟩ := hHeld
            go_simp
            (go_at_call 18; (with_reducible refine (DQ.out _).mono ?_); rintro e wq5 ⟨rfl, hs5⟩; clear c0 c1 c2 c3 c4 c5 lc fc; obtain ⟨c0, c1, c2, c3, c4, c5⟩ := At.z6 (HC.out.blk.fut (w' := wq5)).at0; have lc := (HC.out.blk.fut (w' := wq5)).lt; have fc := (HC.out.blk.fut (w' := wq5)).free; (try (have hx_ := HXB.out.fut (w' := wq5); clear HXB; have HXB := hide hx_; clear hx_)))
            refine hK.out _ _ (by (try dsimp only); (exact ⟨trivial, trivial⟩)) (fun hHeld => ?_)
            clear hK K
            (try simp only [Act.put, List.setIfInBounds_toArray, List.set_cons_zero, List.set_cons_succ])
            refine wpAnyH_take (i := 3) (oi := ⟨some 58, _, _, _, _, _⟩) (v := ?_) rfl (by kernel_rfl) (by kernel_rfl) (by kernel_rfl) (fun _ _ _ h => h) (Or.inl ⟨by rfl, ?_⟩) (by assumption) ?_
            rotate_left
            · ((intro w hSw); (try dsimp only at hSw); go_simp; (try with_reducible rfl))
            (try simp only [Act.put, List.setIfInBounds_toArray, List.set_cons_zero, List.set_cons_succ])
            refine wpAnyH_ready (rs := [0]) (by kernel_rfl) (by simp) ?_
            refine AllReadyH.cons (o := ⟨some 55, _, _, _, _, _⟩) rfl (fun K hK => ?_) AllReadyH.nil
            go_simp
            refine hK.out _ _ (by (try dsimp only); (exact ⟨trivial, trivial⟩)) (fun hHeld => ?_)
            clear hK K
            (try simp only [Act.put, List.setIfInBounds_toArray, List.set_cons_zero, List.set_cons_succ])
            refine wpAnyH_ready (rs := [4]) (by kernel_rfl) (by simp) ?_
            refine AllReadyH.cons (o := ⟨some 59, _, _, _, _, _⟩) rfl (fun K hK => ?_) AllReadyH.nil
            obtain ⟨hS1, hS2⟩ := hHeld
            go_simp
            (go_at_call 17; (with_reducible refine (GT.out _ inferInstance).mono ?_); rintro e wq6 ⟨⟨k24, b24, n24, s24, A24, nl24, c24, AK24, nk24, cK24, rfl, HN4⟩, hs6⟩; clear c0 c1 c2 c3 c4 c5 lc fc; obtain ⟨c0, c1, c2, c3, c4, c5⟩ := At.z6 (HC.out.blk.fut (w' := wq6)).at0; have lc := (HC.out.blk.fut (w' := wq6)).lt; have fc := (HC.out.blk.fut (w' := wq6)).free; (try (have hx_ := HXB.out.fut (w' := wq6); clear HXB; have HXB := hide hx_; clear hx_)))
            refine hK.out _ _ (by (try dsimp only); (exact ⟨trivial, trivial⟩)) (fun hHeld => ?_)
            clear hK K
            (try simp only [Act.put, List.setIfInBounds_toArray, List.set_cons_zero, List.set_cons_succ])
            refine wpAnyH_take (i := 5) (oi := ⟨some 54, _, _, _, _, _⟩) (v := ?_) rfl (by kernel_rfl) (by kernel_rfl) (by kernel_rfl) (fun _ _ _ h => h) (Or.inl ⟨by rfl, ?_⟩) (by assumption) ?_
            rotate_left
            · ((intro w hSw); (try dsimp only at hSw); go_simp; (try with_reducible rfl))
            (try simp only [Act.put, List.setIfInBounds_toArray, List.set_cons_zero, List.set_cons_succ])
            refine wpAnyH_take (i := 6) (oi := ⟨some 60, _, _, _, _, _⟩) (v := ?_) rfl (by kernel_rfl) (by kernel_rfl) (by kernel_rfl) (fun _ _ _ h => h) (Or.inl ⟨by rfl, ?_⟩) (by assumption) ?_
            rotate_left
            · ((intro w hSw); (try dsimp only at hSw); go_simp; (try with_reducible rfl))
            (try simp only [Act.put, List.setIfInBounds_toArray, List.set_cons_zero, List.set_cons_succ])
            refine wpAnyH_take (i := 7) (oi := ⟨some 61, _, _, _, _, _⟩) (v := ?_) rfl (by kernel_rfl) (by kernel_rfl) (by kernel_rfl) (fun _ _ _ h => h) (Or.inl ⟨by rfl, ?_⟩) (by assumption) ?_
            rotate_left
            · ((intro w hSw); (try dsimp only at hSw); go_simp; (try with_reducible rfl))
            (try simp only [Act.put, List.setIfInBounds_toArray, List.set_cons_zero, List.set_cons_succ])
            refine wpAnyH_ready (rs := [9]) (by kernel_rfl) (by simp) ?_
            refine AllReadyH.cons (o := ⟨none, _, _, _, _, _⟩) rfl (fun K hK => ?_) AllReadyH.nil
            (obtain ⟨z0, z1, z2, z3, z4, z5⟩ := At.z6 HXB.out.at0; have lz := HXB.out.lt; have fz := HXB.out.free; go_simp)
            refine hK.out _ _ (by (try dsimp only); (exact ⟨trivial, trivial⟩)) (fun hHeld => ?_)
            clear hK K
            (try simp only [Act.put, List.setIfInBounds_toArray, List.set_cons_zero, List.set_cons_succ])
            refine wpAnyH_take (i := 10) (oi := ⟨some 12, _, _, _, _, _⟩) (v := ?_) rfl (by kernel_rfl) (by kernel_rfl) (by kernel_rfl) (fun _ _ _ h => h) (Or.inl ⟨by rfl, ?_⟩) (by assumption) ?_
            rotate_left
            · ((intro w hSw); (try dsimp only at hSw); go_simp; (try with_reducible rfl))
            (try simp only [Act.put, List.setIfInBounds_toArray, List.set_cons_zero, List.set_cons_succ])
            refine wpAnyH_done (by kernel_rfl) ?_ _
            go_wp2_with fail
            go_meet
            case rel =>
              obtain rfl := HN4.out
              first
                | (have k6 := Blk.new wq6 [.int .i64 k24, .bool b24, .int .i64 (10 * (q : Int)), .string s24, .slice A24 nl24 c24, .slice AK24 nk24 cK24] 25; have k7 := (At.z6 k6.at0).2.2.1; have k8 := k6.lt; with_reducible exact ⟨_, rfl, rfl, Newer.le, k8, k7, Step.of⟩)
                | (have k6 := set6_blk HXB.out (.int .i64 k24) (.bool b24) (.int .i64 (10 * (q : Int))) (.string s24) (.slice A24 nl24 c24) (.slice AK24 nk24 cK24); have k7 := (At.z6 k6.at0).2.2.1; have k8 := k6.lt; unfold set6 at k7 k8; with_reducible exact ⟨_, rfl, rfl, Newer.le, k8, k7, Step.of⟩)
      case rest =>
        obtain ⟨gp, rfl, rfl, hgp1, hgp2, hgn, hsc⟩ := hcut
        obtain ⟨Wc, rfl⟩ : ∃ x : World, x = wc := ⟨_, rfl⟩
        obtain ⟨t0, r0, hl0⟩ : ∃ t0 r0, l = t0 :: r0 := by
          have := HLL.out
          cases l with
          | nil => simp at this; omega
          | cons t0 r0 => exact ⟨t0, r0, rfl⟩
        have hj0 : t0.j = nJ 0 := by
          have h1 := HLK.out.1
          obtain ⟨i2, rfl⟩ : ∃ i2, i = i2 + 1 := ⟨i - 1, by omega⟩
          rw [hl0, T.js, List.range_succ_eq_map, List.map_cons] at h1
          injection h1
        obtain ⟨b0, rfl, hb0, hat0, ht0⟩ := HC.out.first hl0 HLL.out
        have hr0 : RdT wo t0 := ht0.rd (by rw [hj0]; exact fine_leaf (by decide) (by decide) (by decide))
        obtain ⟨k1, b1, n1, s1, A1, nl1, c1_, AK1, nk1, cK1, hcel, hrd1⟩ := Rdd.of hr0 hj0
        rw [hcel] at hat0
        have hat1 := hat0.below (fut wo Wc) hb0
        obtain ⟨y0, y1, y2, y3, y4, y5⟩ := At.z6 hat1
        have ly := Nat.lt_of_lt_of_le hb0 (fut wo Wc).size
        have HAT := hide hat0
        have GF : Hid (∀ w' (hf : Fut wo w'), Calls Tryd.prog 17 #[.agg #[.int .i64 k1, .bool b1, .int .i64 n1, .string s1, .slice A1 nl1 c1_, .slice AK1 nk1 cK1], .string ⟨#[107, 48]⟩] w' fun e w'' => (∃ (k26 : Int) (b26 : Bool) (n26 : Int) (s26 : ByteArray) (A26 : Option Addr) (nl26 c26 : Nat) (AK26 : Option Addr) (nk26 cK26 : Nat), e = .returned (.tuple #[.agg #[.int .i64 k26, .bool b26, .int .i64 n26, .string s26, .slice A26 nl26 c26, .slice AK26 nk26 cK26], .bool false])) ∧ Step w' w'') := fun w' hf => by
          have hst : Step wo w' := ⟨hf.below⟩
          have h := get_rdd wo hrd1 ⟨#[107, 48]⟩ w'
          rw [k_none] at h
          exact h.mono fun e w'' hh => by
            obtain ⟨⟨k26, b26, n26, s26, A26, nl26, c26, AK26, nk26, cK26, h1, h2⟩, h3⟩ := hh
            exact ⟨⟨k26, b26, n26, s26, A26, nl26, c26, AK26, nk26, cK26, h1⟩, h3⟩
        have PT : Hid (∀ w', Calls Tryd.prog 10 #[.string ⟨#[123, 34, 97, 34, 58, 49, 44, 34, 92, 117, 48, 48, 54, 49, 34, 58, 50, 125]⟩] w' fun e w'' => (∃ (k27 : Int) (b27 : Bool) (n27 : Int) (s27 : ByteArray) (A27 : Option Addr) (nl27 c27 : Nat) (AK27 : Option Addr) (nk27 cK27 : Nat), e = .returned (.tuple #[.agg #[.int .i64 k27, .bool b27, .int .i64 n27, .string s27, .slice A27 nl27 c27, .slice AK27 nk27 cK27], .int .i64 300])) ∧ Step w' w'') := fun w' => by
          have h := parse_rdd ⟨#[123, 34, 97, 34, 58, 49, 44, 34, 92, 117, 48, 48, 54, 49, 34, 58, 50, 125]⟩ w' (by decide)
          rw [k_twice] at h
          exact h.mono fun e w'' hh => by
            obtain ⟨⟨k27, b27, n27, s27, A27, nl27, c27, AK27, nk27, cK27, h1, h2⟩, h3⟩ := hh
            exact ⟨⟨k27, b27, n27, s27, A27, nl27, c27, AK27, nk27, cK27, h1⟩, h3⟩
        have hcell2 : ∀ w', Fut Wc w' → w'.cell? ⟨gp, 2, none⟩ = some (.int .i64 (10 * (q : Int))) := fun w' hf => ((bcell hf.below).1 gp 2 hgp2).trans hgn
        have HC2 := hide hcell2
        have hi1 : (0 : Int) < (i : Int) := by omega
        have hmu : (10 : Int) * (q : Int) ≤ 100 := by omega
        have hmu0 : 0 ≤ (10 : Int) * (q : Int) := by omega
        clear hcell2 hgn hat1 hat0 hrd1 hr0 ht0 hcel hj0 hl0
        have hbk := HC.out.blk.fut (w' := Wc)
        clear c0 c1 c2 c3 c4 c5 lc fc
        obtain ⟨c0, c1, c2, c3, c4, c5⟩ := At.z6 hbk.at0
        have lc := hbk.lt
        clear hbk
        go_upto_region 13 with (go_at_call 17; (with_reducible refine (GZ.out _ inferInstance).mono ?_); rintro e wz ⟨⟨k25, b25, n25, s25, A25, nl25, c25, AK25, nk25, cK25, rfl⟩, hsz⟩)
        obtain ⟨W25, hW25⟩ : ∃ W : World, W = wz.alloc (.cells #[.int .i64 k25, .bool b25, .int .i64 n25, .string s25, .slice A25 nl25 c25, .slice AK25 nk25 cK25] 25) := ⟨_, rfl⟩
        have HB25 : Hid (Blk W25 wz.heap.size 25 [.int .i64 k25, .bool b25, .int .i64 n25, .string s25, .slice A25 nl25 c25, .slice AK25 nk25 cK25]) := by rw [hW25]; exact Blk.new wz _ 25
        have SW25 : Step wz W25 := by rw [hW25]; exact Step.of
        rw [← hW25]
        clear hW25
        clear c0 c1 c2 c3 c4 c5 lc y0 y1 y2 y3 y4 y5 ly
        have hbk := HC.out.blk.fut (w' := W25)
        obtain ⟨c0, c1, c2, c3, c4, c5⟩ := At.z6 hbk.at0
        have lc := hbk.lt
        obtain ⟨y0, y1, y2, y3, y4, y5⟩ := At.z6 (HAT.out.below (fut wo W25) hb0)
        have ly := Nat.lt_of_lt_of_le hb0 (fut wo W25).size
        clear hbk
        go_upto_region 14 with (go_at_call 17; (with_reducible refine (GF.out _ inferInstance).mono ?_); rintro e wf ⟨⟨k26, b26, n26, s26, A26, nl26, c26, AK26, nk26, cK26, rfl⟩, hsf⟩)
        obtain ⟨W26, hW26⟩ : ∃ W : World, W = wf.alloc (.cells #[.int .i64 k26, .bool b26, .int .i64 n26, .string s26, .slice A26 nl26 c26, .slice AK26 nk26 cK26] 25) := ⟨_, rfl⟩
        have HB26 : Hid (Blk W26 wf.heap.size 25 [.int .i64 k26, .bool b26, .int .i64 n26, .string s26, .slice A26 nl26 c26, .slice AK26 nk26 cK26]) := by rw [hW26]; exact Blk.new wf _ 25
        have SW26 : Step wf W26 := by rw [hW26]; exact Step.of
        rw [← hW26]
        clear hW26
        clear c0 c1 c2 c3 c4 c5 lc y0 y1 y2 y3 y4 y5 ly
        have PR : Hid (∀ w' (hf : Fut wo w'), Calls Tryd.prog 15 #[.agg #[.int .i64 5, .bool false, .int .i64 0, .string ⟨#[]⟩, .slice (some ⟨b0, 0, none⟩) i c, .slice AK i cK]] w' fun e w'' => e = .returned (.tuple #[.string (printP (kJ i)).1, .int .i64 0]) ∧ Step w' w'') := fun w' hf => by
          have hst : Step wo w' := ⟨hf.below⟩
          have h := print_rdd wo HRD.out w' (Tab.fut (w := w) HTB.out)
          rw [HK4.out] at h
          exact h
        have hbk := HC.out.blk.fut (w' := W26)
        obtain ⟨c0, c1, c2, c3, c4, c5⟩ := At.z6 hbk.at0
        have lc := hbk.lt
        clear hbk
        go_upto_region 18 with (go_at_call 15; (with_reducible refine (PR.out _ inferInstance).mono ?_); rintro e wp ⟨rfl, hsp⟩)
        go_upto_region 19 with (go_at_call 10; (with_reducible refine (PT.out _).mono ?_); rintro e wt ⟨⟨k27, b27, n27, s27, A27, nl27, c27, AK27, nk27, cK27, rfl⟩, hst⟩)
        obtain ⟨W27, hW27⟩ : ∃ W : World, W = wt.alloc (.cells #[.int .i64 k27, .bool b27, .int .i64 n27, .string s27, .slice A27 nl27 c27, .slice AK27 nk27 cK27] 25) := ⟨_, rfl⟩
        have HB27 : Hid (Blk W27 wt.heap.size 25 [.int .i64 k27, .bool b27, .int .i64 n27, .string s27, .slice A27 nl27 c27, .slice AK27 nk27 cK27]) := by rw [hW27]; exact Blk.new wt _ 25
        have SW27 : Step wt W27 := by rw [hW27]; exact Step.of
        rw [← hW27]
        clear hW27
        clear c0 c1 c2 c3 c4 c5 lc
        have hgn := HC2.out W27 inferInstance
        go_wp2_with (go_at_call 13; (with_reducible refine (NM.out _ _).mono ?_); rintro e w6 ⟨rfl, rfl⟩)
        go_ret
        exact ⟨rfl, Step.of⟩

set_option maxRecDepth 100000 in
set_option maxHeartbeats 16000000 in
theorem jkeys_twice (many at_ : Int) (w : World) (htb : Tab w) :
    Calls Tryd.prog 8 #[.int .i64 many, .int .i64 at_, .bool true] w fun e w' => e = .returned (.bool true) ∧ Step w w' := by
  have HTB := hide htb
  have AW : Hid (∀ w' (hf : Fut w w'), Calls Tryd.prog 14 #[] w' fun e w'' => e = .returned (.bool true) ∧ Step w' w'') := fun w' hf => awake3_any w' (Tab.fut htb)
  obtain ⟨M, hM, hM7⟩ : ∃ M : Nat, bits .and .i64 many 7 = (M : Int) ∧ M < 8 := ⟨(many % 8).toNat, by rw [i64_and7]; omega, by omega⟩
  have NM := hide num_any
  have DC := hide (fun (q : Nat) (hq : q < 8) w' => dec_any (q : Int) (by omega) (by omega) w')
  clear htb
  go_enter Tryd.func8, Tryd.ntmps8
  go_upto_region 4 with (go_at_call 14; (with_reducible refine (AW.out _ inferInstance).mono ?_); rintro e wa ⟨rfl, hsa⟩)
  clear hM
  have hm1 : (1 : Int) + (M : Int) = ((M + 1 : Nat) : Int) := by omega
  rw [hm1]
  obtain ⟨K, hK⟩ : ∃ K, M + 1 = K := ⟨_, rfl⟩
  rw [hK]
  have hK1 : 1 ≤ K := by omega
  have hK8 : K ≤ 8 := by omega
  clear hm1 hK hM7
  go_upto_region 5 with fail
  obtain ⟨W1, hW1⟩ : ∃ W : World, W = wa.alloc (.cells #[.int .i64 5, .bool false, .int .i64 0, .string ⟨#[]⟩, .slice none 0 0, .slice none 0 0] 25) := ⟨_, rfl⟩
  have HO1 : Hid (ObjAt wa.heap.size w W1 [] [] none 0 0 none 0 0) := by
    rw [hW1]
    exact ⟨Blk.new wa _ 25, Own.nil_ _ _ _ _, Own.nil_ _ _ _ _, by rw [TAts]; trivial, Step.of, (fut w wa).size, by simp⟩
  have SW1 : Step wa W1 := by rw [hW1]; exact Step.of
  rw [← hW1]
  obtain ⟨g, hg⟩ : ∃ g, wa.heap.size = g := ⟨_, rfl⟩
  rw [hg] at HO1
  rw [hg]
  have HG := hide hg
  clear hW1 hg
  go_wp2_with fail
  go_loopw [9] (fun v9 wr => ∃ (i c cK : Nat) (A AK : Option Addr) (l : List T) (ks : List ByteArray), i ≤ K ∧ v9 = .int .i64 i ∧ Hid (T.js l = (List.range i).map (fun q : Nat => nJ (10 * (q : Int))) ∧ ks = (List.range i).map kS ∧ l.length = i ∧ ks.length = i) ∧ ObjAt g w wr l ks A c i AK cK i) (fun v9 _ => K - (intOf v9).toNat)
  case atStart => exact ⟨0, 0, 0, none, none, [], [], Nat.zero_le _, rfl, ⟨rfl, rfl, rfl, rfl⟩, HO1.out⟩
  case round =>
    obtain ⟨i, c, cK, A, AK, l, ks, hi, rfl, HLK, hca⟩ := hrel
    have HC := hide hca
    have hgw := hca.sz
    clear hca HO1
    obtain ⟨wo, rfl⟩ : ∃ x : World, x = wr := ⟨_, rfl⟩
    have HKL : Hid (ks.length = i) := HLK.out.2.2.2
    have HLL : Hid (l.length = i) := HLK.out.2.2.1
    obtain ⟨c0, c1, c2, c3, c4, c5⟩ := At.z6 HC.out.blk.at0
    have lc := HC.out.blk.lt
    have fc := HC.out.blk.free
    by_cases hlt : i < K
    · have hil : (i : Int) < (K : Int) := by omega
      have hi0 : (i : Int) + 1 ≤ 100 := by omega
      have hi8 : i < 8 := by omega
      obtain ⟨SD, hSD⟩ : ∃ S, ofL (Go.Lib.itoa (i : Int)) = S := ⟨_, rfl⟩
      have hSs : SD.size = 1 := by rw [← hSD, itoa_small hi8]; rfl
      have DI := DC.out i hi8
      rw [hSD] at DI
      have DI := hide DI
      have HKS : Hid (⟨#[107]⟩ ++ SD = kS i) := by show _ = _; rw [kS, hSD]
      clear hSD
      go_upto_region 8 with fail
      refine wp_region_held_drew (S := (fun _ => True ∧ True)) (by kernel_rfl) (by (try dsimp only); (exact ⟨trivial, trivial⟩)) (fun hHeld => ?_)
      refine wpAnyH_take (i := 0) (oi := ⟨some 32, _, _, _, _, _⟩) (v := ?_) rfl (by kernel_rfl) (by kernel_rfl) (by kernel_rfl) (fun _ _ _ h => h) (Or.inl ⟨by rfl, ?_⟩) (by assumption) ?_
      rotate_left
      · ((intro w hSw); (try dsimp only at hSw); go_simp; (try with_reducible rfl))
      (try simp only [Act.put, List.setIfInBounds_toArray, List.set_cons_zero, List.set_cons_succ])
      refine wpAnyH_take (i := 2) (oi := ⟨some 34, _, _, _, _, _⟩) (v := ?_) rfl (by kernel_rfl) (by kernel_rfl) (by kernel_rfl) (fun _ _ _ h => h) (Or.inl ⟨by rfl, ?_⟩) (by assumption) ?_
      rotate_left
      · ((intro w hSw); (try dsimp only at hSw); go_simp; (try with_reducible rfl))
      (try simp only [Act.put, List.setIfInBounds_toArray, List.set_cons_zero, List.set_cons_succ])
      refine wpAnyH_ready (rs := [1, 3]) (by kernel_rfl) (by simp) ?_
      refine AllReadyH.cons (o := ⟨some 33, _, _, _, _, _⟩) rfl (fun K hK => ?_) (AllReadyH.cons (o := ⟨some 35, _, _, _, _, _⟩) rfl (fun K hK => ?_) AllReadyH.nil)
      · go_simp
        refine hK.out _ _ (by (try dsimp only); (exact ⟨trivial, trivial⟩)) (fun hHeld => ?_)
        clear hK K
        (try simp only [Act.put, List.setIfInBounds_toArray, List.set_cons_zero, List.set_cons_succ])
        refine wpAnyH_ready (rs := [3]) (by kernel_rfl) (by simp) ?_
        refine AllReadyH.cons (o := ⟨some 35, _, _, _, _, _⟩) rfl (fun K hK => ?_) AllReadyH.nil
        obtain ⟨hS1, hS2⟩ := hHeld
        go_simp
        (go_at_call 18; (with_reducible refine (DI.out _).mono ?_); rintro e w5 ⟨rfl, hs5⟩; have HC5 := hide (HC.out.step (w2 := w5)); clear c0 c1 c2 c3 c4 c5 lc fc; obtain ⟨c0, c1, c2, c3, c4, c5⟩ := At.z6 HC5.out.blk.at0; have lc := HC5.out.blk.lt; have fc := HC5.out.blk.free)
        refine hK.out _ _ (by (try dsimp only); (exact ⟨trivial, trivial⟩)) (fun hHeld => ?_)
        clear hK K
        (try simp only [Act.put, List.setIfInBounds_toArray, List.set_cons_zero, List.set_cons_succ])
        refine wpAnyH_take (i := 4) (oi := ⟨some 36, _, _, _, _, _⟩) (v := ?_) rfl (by kernel_rfl) (by kernel_rfl) (by kernel_rfl) (fun _ _ _ h => h) (Or.inl ⟨by rfl, ?_⟩) (by assumption) ?_
        rotate_left
        · ((intro w hSw); (try dsimp only at hSw); go_simp; (try with_reducible rfl))
        (try simp only [Act.put, List.setIfInBounds_toArray, List.set_cons_zero, List.set_cons_succ])
        refine wpAnyH_ready (rs := [5]) (by kernel_rfl) (by simp) ?_
        refine AllReadyH.cons (o := ⟨some 37, _, _, _, _, _⟩) rfl (fun K hK => ?_) AllReadyH.nil
        go_simp
        refine hK.out _ _ (by (try dsimp only); (exact ⟨trivial, trivial⟩)) (fun hHeld => ?_)
        clear hK K
        (try simp only [Act.put, List.setIfInBounds_toArray, List.set_cons_zero, List.set_cons_succ])
        refine wpAnyH_ready (rs := [6]) (by kernel_rfl) (by simp) ?_
        refine AllReadyH.cons (o := ⟨some 38, _, _, _, _, _⟩) rfl (fun K hK => ?_) AllReadyH.nil
        (have HC6 := hide (HC5.out.step (w2 := w5.alloc (.cells #[.string (⟨#[107]⟩ ++ SD)] 9))); refine step_append_slB rfl (.tmp 33) (.tmp 37) 23 rfl eiK (base := g + 1) (xs := strCells ks) rfl HC6.out.ok (keys_fit _) (ad := ⟨w5.heap.size, 0, none⟩) (c := 1) (y := [.string (⟨#[107]⟩ ++ SD)]) rfl (cells_at w5 [.string (⟨#[107]⟩ ++ SD)] 9) (keys_fit [(⟨#[107]⟩ : ByteArray) ++ SD]) (by rw [strCells, List.length_map, HKL.out]; omega) HC6.out.size (N := i + 1) (by rw [strCells, List.length_map, HKL.out]) ?_; intro A7 c7 w7 ho7 hg7 hb7 hA7; have HC8 := hide (HC6.out.addK hg7 ho7 hA7); have hb7_ := HC6.out.blk.grown hg7 (by intro e; have := (HC6.out.ok.lt _ e.symm).1; omega); clear ho7 hg7 hb7 hA7; clear c0 c1 c2 c3 c4 c5 lc fc; obtain ⟨c0, c1, c2, c3, c4, c5⟩ := At.z6 hb7_.at0; have lc := hb7_.lt; have fc := hb7_.free; clear hb7_)
        refine hK.out _ _ (by (try dsimp only); (exact ⟨trivial, trivial⟩)) (fun hHeld => ?_)
        clear hK K
        (try simp only [Act.put, List.setIfInBounds_toArray, List.set_cons_zero, List.set_cons_succ])
        refine wpAnyH_take (i := 7) (oi := ⟨some 39, _, _, _, _, _⟩) (v := ?_) rfl (by kernel_rfl) (by kernel_rfl) (by kernel_rfl) (fun _ _ _ h => h) (Or.inl ⟨by rfl, ?_⟩) (by assumption) ?_
        rotate_left
        · ((intro w hSw); (try dsimp only at hSw); go_simp; (try with_reducible rfl))
        (try simp only [Act.put, List.setIfInBounds_toArray, List.set_cons_zero, List.set_cons_succ])
        refine wpAnyH_ready (rs := [8]) (by kernel_rfl) (by simp) ?_
        refine AllReadyH.cons (o := ⟨none, _, _, _, _, _⟩) rfl (fun K hK => ?_) AllReadyH.nil
        go_simp
        refine hK.out _ _ (by (try dsimp only); (exact ⟨trivial, trivial⟩)) (fun hHeld => ?_)
        clear hK K
        (try simp only [Act.put, List.setIfInBounds_toArray, List.set_cons_zero, List.set_cons_succ])
        refine wpAnyH_done (by kernel_rfl) ?_ _
        have HKL8 : Hid ((ks ++ [⟨#[107]⟩ ++ SD]).length = i + 1) := by show _ = _; rw [List.length_append, HKL.out]; rfl
        obtain ⟨V, hV⟩ : ∃ V : World, V = w7.setCell ⟨g, 5, none⟩ (.slice A7 (i + 1) c7) := ⟨_, rfl⟩
        rw [← hV] at HC8
        rw [← hV]
        clear hV c0 c1 c2 c3 c4 c5 lc fc
        obtain ⟨c0, c1, c2, c3, c4, c5⟩ := At.z6 HC8.out.blk.at0
        have lc := HC8.out.blk.lt
        have fc := HC8.out.blk.free
        have hmu : (10 : Int) * (i : Int) ≤ 100 := by omega
        have hmu0 : 0 ≤ (10 : Int) * (i : Int) := by omega
        go_wp2_with (at_builtin; have HC9 := hide (HC8.out.step (w2 := V.alloc (.cells #[.int .i64 2, .bool false, .int .i64 (10 * (i : Int)), .string ⟨#[]⟩, .slice none 0 0, .slice none 0 0] 25))); refine wpList_append_slB rfl (.tmp 41) (.tmp 45) 22 rfl eiJ (base := g + 1) (xs := l.map T.cells) rfl HC9.out.ol (tree_fit _) (ad := ⟨V.heap.size, 0, none⟩) (c := 1) (y := [.int .i64 2, .bool false, .int .i64 (10 * (i : Int)), .string ⟨#[]⟩, .slice none 0 0, .slice none 0 0]) rfl (cells_at V [.int .i64 2, .bool false, .int .i64 (10 * (i : Int)), .string ⟨#[]⟩, .slice none 0 0, .slice none 0 0] 25) (tree_fit [.mk 2 false (10 * (i : Int)) ⟨#[]⟩ none 0 [] none 0 []]) (by rw [List.length_map, HLL.out]; omega) HC9.out.size (N := i + 1) (by rw [List.length_map, HLL.out]) ?_; intro A9 c9 w9 ho9 hg9 hb9 hA9; have HC10 := hide (HC9.out.addL (t := .mk 2 false (10 * (i : Int)) ⟨#[]⟩ none 0 [] none 0 []) (TAt.leaf _ _ _ _ _ _) hg9 ho9 hA9); have hb9_ := HC9.out.blk.grown hg9 (by intro e; have := (HC9.out.ol.lt _ e.symm).1; omega); clear ho9 hg9 hb9 hA9 c0 c1 c2 c3 c4 c5 lc fc; obtain ⟨c0, c1, c2, c3, c4, c5⟩ := At.z6 hb9_.at0; have lc := hb9_.lt; have fc := hb9_.free; clear hb9_)
        go_roundw
        case rel => exact ⟨i + 1, c9, c7, A9, A7, l ++ [.mk 2 false (10 * (i : Int)) ⟨#[]⟩ none 0 [] none 0 []], ks ++ [⟨#[107]⟩ ++ SD], by omega, by go_num, ⟨by rw [js_app, HLK.out.1, List.range_succ, List.map_append]; rfl, by rw [HKS.out, HLK.out.2.1, List.range_succ, List.map_append]; rfl, by rw [List.length_append, HLL.out]; rfl, HKL8.out⟩, HC10.out⟩
        case measure => simp [intOf]; omega
      · obtain ⟨hS1, hS2⟩ := hHeld
        go_simp
        (go_at_call 18; (with_reducible refine (DI.out _).mono ?_); rintro e w5 ⟨rfl, hs5⟩; have HC5 := hide (HC.out.step (w2 := w5)); clear c0 c1 c2 c3 c4 c5 lc fc; obtain ⟨c0, c1, c2, c3, c4, c5⟩ := At.z6 HC5.out.blk.at0; have lc := HC5.out.blk.lt; have fc := HC5.out.blk.free)
        refine hK.out _ _ (by (try dsimp only); (exact ⟨trivial, trivial⟩)) (fun hHeld => ?_)
        clear hK K
        (try simp only [Act.put, List.setIfInBounds_toArray, List.set_cons_zero, List.set_cons_succ])
        refine wpAnyH_take (i := 4) (oi := ⟨some 36, _, _, _, _, _⟩) (v := ?_) rfl (by kernel_rfl) (by kernel_rfl) (by kernel_rfl) (fun _ _ _ h => h) (Or.inl ⟨by rfl, ?_⟩) (by assumption) ?_
        rotate_left
        · ((intro w hSw); (try dsimp only at hSw); go_simp; (try with_reducible rfl))
        (try simp only [Act.put, List.setIfInBounds_toArray, List.set_cons_zero, List.set_cons_succ])
        refine wpAnyH_ready (rs := [1, 5]) (by kernel_rfl) (by simp) ?_
        refine AllReadyH.cons (o := ⟨some 33, _, _, _, _, _⟩) rfl (fun K hK => ?_) (AllReadyH.cons (o := ⟨some 37, _, _, _, _, _⟩) rfl (fun K hK => ?_) AllReadyH.nil)
        · go_simp
          refine hK.out _ _ (by (try dsimp only); (exact ⟨trivial, trivial⟩)) (fun hHeld => ?_)
          clear hK K
          (try simp only [Act.put, List.setIfInBounds_toArray, List.set_cons_zero, List.set_cons_succ])
          refine wpAnyH_ready (rs := [5]) (by kernel_rfl) (by simp) ?_
          refine AllReadyH.cons (o := ⟨some 37, _, _, _, _, _⟩) rfl (fun K hK => ?_) AllReadyH.nil
          go_simp
          refine hK.out _ _ (by (try dsimp only); (exact ⟨trivial, trivial⟩)) (fun hHeld => ?_)
          clear hK K
          (try simp only [Act.put, List.setIfInBounds_toArray, List.set_cons_zero, List.set_cons_succ])
          refine wpAnyH_ready (rs := [6]) (by kernel_rfl) (by simp) ?_
          refine AllReadyH.cons (o := ⟨some 38, _, _, _, _, _⟩) rfl (fun K hK => ?_) AllReadyH.nil
          (have HC6 := hide (HC5.out.step (w2 := w5.alloc (.cells #[.string (⟨#[107]⟩ ++ SD)] 9))); refine step_append_slB rfl (.tmp 33) (.tmp 37) 23 rfl eiK (base := g + 1) (xs := strCells ks) rfl HC6.out.ok (keys_fit _) (ad := ⟨w5.heap.size, 0, none⟩) (c := 1) (y := [.string (⟨#[107]⟩ ++ SD)]) rfl (cells_at w5 [.string (⟨#[107]⟩ ++ SD)] 9) (keys_fit [(⟨#[107]⟩ : ByteArray) ++ SD]) (by rw [strCells, List.length_map, HKL.out]; omega) HC6.out.size (N := i + 1) (by rw [strCells, List.length_map, HKL.out]) ?_; intro A7 c7 w7 ho7 hg7 hb7 hA7; have HC8 := hide (HC6.out.addK hg7 ho7 hA7); have hb7_ := HC6.out.blk.grown hg7 (by intro e; have := (HC6.out.ok.lt _ e.symm).1; omega); clear ho7 hg7 hb7 hA7; clear c0 c1 c2 c3 c4 c5 lc fc; obtain ⟨c0, c1, c2, c3, c4, c5⟩ := At.z6 hb7_.at0; have lc := hb7_.lt; have fc := hb7_.free; clear hb7_)
          refine hK.out _ _ (by (try dsimp only); (exact ⟨trivial, trivial⟩)) (fun hHeld => ?_)
          clear hK K
          (try simp only [Act.put, List.setIfInBounds_toArray, List.set_cons_zero, List.set_cons_succ])
          refine wpAnyH_take (i := 7) (oi := ⟨some 39, _, _, _, _, _⟩) (v := ?_) rfl (by kernel_rfl) (by kernel_rfl) (by kernel_rfl) (fun _ _ _ h => h) (Or.inl ⟨by rfl, ?_⟩) (by assumption) ?_
          rotate_left
          · ((intro w hSw); (try dsimp only at hSw); go_simp; (try with_reducible rfl))
          (try simp only [Act.put, List.setIfInBounds_toArray, List.set_cons_zero, List.set_cons_succ])
          refine wpAnyH_ready (rs := [8]) (by kernel_rfl) (by simp) ?_
          refine AllReadyH.cons (o := ⟨none, _, _, _, _, _⟩) rfl (fun K hK => ?_) AllReadyH.nil
          go_simp
          refine hK.out _ _ (by (try dsimp only); (exact ⟨trivial, trivial⟩)) (fun hHeld => ?_)
          clear hK K
          (try simp only [Act.put, List.setIfInBounds_toArray, List.set_cons_zero, List.set_cons_succ])
          refine wpAnyH_done (by kernel_rfl) ?_ _
          have HKL8 : Hid ((ks ++ [⟨#[107]⟩ ++ SD]).length = i + 1) := by show _ = _; rw [List.length_append, HKL.out]; rfl
          obtain ⟨V, hV⟩ : ∃ V : World, V = w7.setCell ⟨g, 5, none⟩ (.slice A7 (i + 1) c7) := ⟨_, rfl⟩
          rw [← hV] at HC8
          rw [← hV]
          clear hV c0 c1 c2 c3 c4 c5 lc fc
          obtain ⟨c0, c1, c2, c3, c4, c5⟩ := At.z6 HC8.out.blk.at0
          have lc := HC8.out.blk.lt
          have fc := HC8.out.blk.free
          have hmu : (10 : Int) * (i : Int) ≤ 100 := by omega
          have hmu0 : 0 ≤ (10 : Int) * (i : Int) := by omega
          go_wp2_with (at_builtin; have HC9 := hide (HC8.out.step (w2 := V.alloc (.cells #[.int .i64 2, .bool false, .int .i64 (10 * (i : Int)), .string ⟨#[]⟩, .slice none 0 0, .slice none 0 0] 25))); refine wpList_append_slB rfl (.tmp 41) (.tmp 45) 22 rfl eiJ (base := g + 1) (xs := l.map T.cells) rfl HC9.out.ol (tree_fit _) (ad := ⟨V.heap.size, 0, none⟩) (c := 1) (y := [.int .i64 2, .bool false, .int .i64 (10 * (i : Int)), .string ⟨#[]⟩, .slice none 0 0, .slice none 0 0]) rfl (cells_at V [.int .i64 2, .bool false, .int .i64 (10 * (i : Int)), .string ⟨#[]⟩, .slice none 0 0, .slice none 0 0] 25) (tree_fit [.mk 2 false (10 * (i : Int)) ⟨#[]⟩ none 0 [] none 0 []]) (by rw [List.length_map, HLL.out]; omega) HC9.out.size (N := i + 1) (by rw [List.length_map, HLL.out]) ?_; intro A9 c9 w9 ho9 hg9 hb9 hA9; have HC10 := hide (HC9.out.addL (t := .mk 2 false (10 * (i : Int)) ⟨#[]⟩ none 0 [] none 0 []) (TAt.leaf _ _ _ _ _ _) hg9 ho9 hA9); have hb9_ := HC9.out.blk.grown hg9 (by intro e; have := (HC9.out.ol.lt _ e.symm).1; omega); clear ho9 hg9 hb9 hA9 c0 c1 c2 c3 c4 c5 lc fc; obtain ⟨c0, c1, c2, c3, c4, c5⟩ := At.z6 hb9_.at0; have lc := hb9_.lt; have fc := hb9_.free; clear hb9_)
          go_roundw
          case rel => exact ⟨i + 1, c9, c7, A9, A7, l ++ [.mk 2 false (10 * (i : Int)) ⟨#[]⟩ none 0 [] none 0 []], ks ++ [⟨#[107]⟩ ++ SD], by omega, by go_num, ⟨by rw [js_app, HLK.out.1, List.range_succ, List.map_append]; rfl, by rw [HKS.out, HLK.out.2.1, List.range_succ, List.map_append]; rfl, by rw [List.length_append, HLL.out]; rfl, HKL8.out⟩, HC10.out⟩
          case measure => simp [intOf]; omega
        · go_simp
          refine hK.out _ _ (by (try dsimp only); (exact ⟨trivial, trivial⟩)) (fun hHeld => ?_)
          clear hK K
          (try simp only [Act.put, List.setIfInBounds_toArray, List.set_cons_zero, List.set_cons_succ])
          refine wpAnyH_ready (rs := [1]) (by kernel_rfl) (by simp) ?_
          refine AllReadyH.cons (o := ⟨some 33, _, _, _, _, _⟩) rfl (fun K hK => ?_) AllReadyH.nil
          go_simp
          refine hK.out _ _ (by (try dsimp only); (exact ⟨trivial, trivial⟩)) (fun hHeld => ?_)
          clear hK K
          (try simp only [Act.put, List.setIfInBounds_toArray, List.set_cons_zero, List.set_cons_succ])
          refine wpAnyH_ready (rs := [6]) (by kernel_rfl) (by simp) ?_
          refine AllReadyH.cons (o := ⟨some 38, _, _, _, _, _⟩) rfl (fun K hK => ?_) AllReadyH.nil
          (have HC6 := hide (HC5.out.step (w2 := w5.alloc (.cells #[.string (⟨#[107]⟩ ++ SD)] 9))); refine step_append_slB rfl (.tmp 33) (.tmp 37) 23 rfl eiK (base := g + 1) (xs := strCells ks) rfl HC6.out.ok (keys_fit _) (ad := ⟨w5.heap.size, 0, none⟩) (c := 1) (y := [.string (⟨#[107]⟩ ++ SD)]) rfl (cells_at w5 [.string (⟨#[107]⟩ ++ SD)] 9) (keys_fit [(⟨#[107]⟩ : ByteArray) ++ SD]) (by rw [strCells, List.length_map, HKL.out]; omega) HC6.out.size (N := i + 1) (by rw [strCells, List.length_map, HKL.out]) ?_; intro A7 c7 w7 ho7 hg7 hb7 hA7; have HC8 := hide (HC6.out.addK hg7 ho7 hA7); have hb7_ := HC6.out.blk.grown hg7 (by intro e; have := (HC6.out.ok.lt _ e.symm).1; omega); clear ho7 hg7 hb7 hA7; clear c0 c1 c2 c3 c4 c5 lc fc; obtain ⟨c0, c1, c2, c3, c4, c5⟩ := At.z6 hb7_.at0; have lc := hb7_.lt; have fc := hb7_.free; clear hb7_)
          refine hK.out _ _ (by (try dsimp only); (exact ⟨trivial, trivial⟩)) (fun hHeld => ?_)
          clear hK K
          (try simp only [Act.put, List.setIfInBounds_toArray, List.set_cons_zero, List.set_cons_succ])
          refine wpAnyH_take (i := 7) (oi := ⟨some 39, _, _, _, _, _⟩) (v := ?_) rfl (by kernel_rfl) (by kernel_rfl) (by kernel_rfl) (fun _ _ _ h => h) (Or.inl ⟨by rfl, ?_⟩) (by assumption) ?_
          rotate_left
          · ((intro w hSw); (try dsimp only at hSw); go_simp; (try with_reducible rfl))
          (try simp only [Act.put, List.setIfInBounds_toArray, List.set_cons_zero, List.set_cons_succ])
          refine wpAnyH_ready (rs := [8]) (by kernel_rfl) (by simp) ?_
          refine AllReadyH.cons (o := ⟨none, _, _, _, _, _⟩) rfl (fun K hK => ?_) AllReadyH.nil
          go_simp
          refine hK.out _ _ (by (try dsimp only); (exact ⟨trivial, trivial⟩)) (fun hHeld => ?_)
          clear hK K
          (try simp only [Act.put, List.setIfInBounds_toArray, List.set_cons_zero, List.set_cons_succ])
          refine wpAnyH_done (by kernel_rfl) ?_ _
          have HKL8 : Hid ((ks ++ [⟨#[107]⟩ ++ SD]).length = i + 1) := by show _ = _; rw [List.length_append, HKL.out]; rfl
          obtain ⟨V, hV⟩ : ∃ V : World, V = w7.setCell ⟨g, 5, none⟩ (.slice A7 (i + 1) c7) := ⟨_, rfl⟩
          rw [← hV] at HC8
          rw [← hV]
          clear hV c0 c1 c2 c3 c4 c5 lc fc
          obtain ⟨c0, c1, c2, c3, c4, c5⟩ := At.z6 HC8.out.blk.at0
          have lc := HC8.out.blk.lt
          have fc := HC8.out.blk.free
          have hmu : (10 : Int) * (i : Int) ≤ 100 := by omega
          have hmu0 : 0 ≤ (10 : Int) * (i : Int) := by omega
          go_wp2_with (at_builtin; have HC9 := hide (HC8.out.step (w2 := V.alloc (.cells #[.int .i64 2, .bool false, .int .i64 (10 * (i : Int)), .string ⟨#[]⟩, .slice none 0 0, .slice none 0 0] 25))); refine wpList_append_slB rfl (.tmp 41) (.tmp 45) 22 rfl eiJ (base := g + 1) (xs := l.map T.cells) rfl HC9.out.ol (tree_fit _) (ad := ⟨V.heap.size, 0, none⟩) (c := 1) (y := [.int .i64 2, .bool false, .int .i64 (10 * (i : Int)), .string ⟨#[]⟩, .slice none 0 0, .slice none 0 0]) rfl (cells_at V [.int .i64 2, .bool false, .int .i64 (10 * (i : Int)), .string ⟨#[]⟩, .slice none 0 0, .slice none 0 0] 25) (tree_fit [.mk 2 false (10 * (i : Int)) ⟨#[]⟩ none 0 [] none 0 []]) (by rw [List.length_map, HLL.out]; omega) HC9.out.size (N := i + 1) (by rw [List.length_map, HLL.out]) ?_; intro A9 c9 w9 ho9 hg9 hb9 hA9; have HC10 := hide (HC9.out.addL (t := .mk 2 false (10 * (i : Int)) ⟨#[]⟩ none 0 [] none 0 []) (TAt.leaf _ _ _ _ _ _) hg9 ho9 hA9); have hb9_ := HC9.out.blk.grown hg9 (by intro e; have := (HC9.out.ol.lt _ e.symm).1; omega); clear ho9 hg9 hb9 hA9 c0 c1 c2 c3 c4 c5 lc fc; obtain ⟨c0, c1, c2, c3, c4, c5⟩ := At.z6 hb9_.at0; have lc := hb9_.lt; have fc := hb9_.free; clear hb9_)
          go_roundw
          case rel => exact ⟨i + 1, c9, c7, A9, A7, l ++ [.mk 2 false (10 * (i : Int)) ⟨#[]⟩ none 0 [] none 0 []], ks ++ [⟨#[107]⟩ ++ SD], by omega, by go_num, ⟨by rw [js_app, HLK.out.1, List.range_succ, List.map_append]; rfl, by rw [HKS.out, HLK.out.2.1, List.range_succ, List.map_append]; rfl, by rw [List.length_append, HLL.out]; rfl, HKL8.out⟩, HC10.out⟩
          case measure => simp [intOf]; omega
    · obtain rfl : i = K := by omega
      clear hlt
      have hsw : Step w wo := HC.out.st
      have hV0 : IntKind.u64.wrap (i : Int) = (i : Int) := by rw [IntKind.wrap_u64]; omega
      obtain ⟨V, hV⟩ : ∃ V : Int, IntKind.u64.wrap at_ = V := ⟨_, rfl⟩
      have hVn : 0 ≤ V := by rw [← hV, IntKind.wrap_u64]; omega
      go_upto_region 11 with fail
      obtain ⟨q, hq, hqi⟩ : ∃ q : Nat, wrap64 (V % (i : Int)) = (q : Int) ∧ q < i := by
        have h1 := Int.emod_nonneg V (b := (i : Int)) (by omega)
        have h2 := Int.emod_lt_of_pos V (b := (i : Int)) (by omega)
        exact ⟨(V % (i : Int)).toNat, by unfold wrap64; omega, by omega⟩
      rw [hq]
      clear hq hV hV0 hVn
      have hq8 : q < 8 := by omega
      have HKJ : Hid (J.mk 5 false 0 ⟨#[]⟩ (T.js l) ks = kJ i) := by show _ = _; rw [HLK.out.1, HLK.out.2.1, kJ]
      have HRD : Hid (Rdd wo (kJ i) 5 false 0 ⟨#[]⟩ A i c AK i cK) := HC.out.rdd HLL.out HKL.out HKJ.out (fine_kJ i hK8)
      obtain ⟨kk1, kk2, kk3, kk4, kk5⟩ := keys_ok hK8 hqi
      obtain ⟨SD, hSD⟩ : ∃ S, ofL (Go.Lib.itoa (q : Int)) = S := ⟨_, rfl⟩
      have hSs : SD.size = 1 := by rw [← hSD, itoa_small hq8]; rfl
      have HKS : Hid (⟨#[107]⟩ ++ SD = kS q) := by show _ = _; rw [kS, hSD]
      have DQ := DC.out q hq8
      rw [hSD] at DQ
      have DQ := hide DQ
      have GT : Hid (∀ w' (hf : Fut wo w'), Calls Tryd.prog 17 #[.agg #[.int .i64 5, .bool false, .int .i64 0, .string ⟨#[]⟩, .slice A i c, .slice AK i cK], .string (⟨#[107]⟩ ++ SD)] w' fun e w'' => (∃ (k24 : Int) (b24 : Bool) (n24 : Int) (s24 : ByteArray) (A24 : Option Addr) (nl24 c24 : Nat) (AK24 : Option Addr) (nk24 cK24 : Nat), e = .returned (.tuple #[.agg #[.int .i64 k24, .bool b24, .int .i64 n24, .string s24, .slice A24 nl24 c24, .slice AK24 nk24 cK24], .bool true]) ∧ Hid (n24 = 10 * (q : Int))) ∧ Step w' w'') := fun w' hf => by
        have hst : Step wo w' := ⟨hf.below⟩
        have h := get_rdd wo HRD.out (kS q) w'
        rw [← HKS.out] at h kk1 kk2
        rw [kk2] at h
        exact h.mono fun e w'' hh => by
          obtain ⟨⟨k24, b24, n24, s24, A24, nl24, c24, AK24, nk24, cK24, h1, h2⟩, h3⟩ := hh
          exact ⟨⟨k24, b24, n24, s24, A24, nl24, c24, AK24, nk24, cK24, h1, h2.eqs.2.2.1.trans kk1⟩, h3⟩
      have GZ : Hid (∀ w' (hf : Fut wo w'), Calls Tryd.prog 17 #[.agg #[.int .i64 5, .bool false, .int .i64 0, .string ⟨#[]⟩, .slice A i c, .slice AK i cK], .string ⟨#[122, 122]⟩] w' fun e w'' => (∃ (k25 : Int) (b25 : Bool) (n25 : Int) (s25 : ByteArray) (A25 : Option Addr) (nl25 c25 : Nat) (AK25 : Option Addr) (nk25 cK25 : Nat), e = .returned (.tuple #[.agg #[.int .i64 k25, .bool b25, .int .i64 n25, .string s25, .slice A25 nl25 c25, .slice AK25 nk25 cK25], .bool false])) ∧ Step w' w'') := fun w' hf => by
        have hst : Step wo w' := ⟨hf.below⟩
        have h := get_rdd wo HRD.out ⟨#[122, 122]⟩ w'
        rw [kk3] at h
        exact h.mono fun e w'' hh => by
          obtain ⟨⟨k25, b25, n25, s25, A25, nl25, c25, AK25, nk25, cK25, h1, h2⟩, h3⟩ := hh
          exact ⟨⟨k25, b25, n25, s25, A25, nl25, c25, AK25, nk25, cK25, h1⟩, h3⟩
      have HK4 := hide kk4; have HK5 := hide kk5
      clear kk1 kk2 kk3 kk4 kk5 hSD
      go_cut [11, 12] from 54 to 61 (fun x11 x12 wx => ∃ gp : Nat, x11 = .pointer (some ⟨gp, 0, none⟩) ∧ x12 = .bool true ∧ wo.heap.size ≤ gp ∧ gp < wx.heap.size ∧ wx.cell? ⟨gp, 2, none⟩ = some (.int .i64 (10 * (q : Int))) ∧ Step wo wx)
      case first =>
        refine wp_region_held_drew (S := (fun _ => True ∧ True)) (by kernel_rfl) (by (try dsimp only); (exact ⟨trivial, trivial⟩)) (fun hHeld => ?_)
        refine wpAnyH_take (i := 1) (oi := ⟨some 56, _, _, _, _, _⟩) (v := ?_) rfl (by kernel_rfl) (by kernel_rfl) (by kernel_rfl) (fun _ _ _ h => h) (Or.inl ⟨by rfl, ?_⟩) (by assumption) ?_
        rotate_left
        · ((intro w hSw); (try dsimp only at hSw); go_simp; (try with_reducible rfl))
        (try simp only [Act.put, List.setIfInBounds_toArray, List.set_cons_zero, List.set_cons_succ])
        refine wpAnyH_ready (rs := [0, 2, 8]) (by kernel_rfl) (by simp) ?_
        refine AllReadyH.cons (o := ⟨some 55, _, _, _, _, _⟩) rfl (fun K hK => ?_) (AllReadyH.cons (o := ⟨some 57, _, _, _, _, _⟩) rfl (fun K hK => ?_) (AllReadyH.cons (o := ⟨some 11, _, _, _, _, _⟩) rfl (fun K hK => ?_) AllReadyH.nil))
        · go_simp
          refine hK.out _ _ (by (try dsimp only); (exact ⟨trivial, trivial⟩)) (fun hHeld => ?_)
          clear hK K
          (try simp only [Act.put, List.setIfInBounds_toArray, List.set_cons_zero, List.set_cons_succ])
          refine wpAnyH_ready (rs := [2, 8]) (by kernel_rfl) (by simp) ?_
          refine AllReadyH.cons (o := ⟨some 57, _, _, _, _, _⟩) rfl (fun K hK => ?_) (AllReadyH.cons (o := ⟨some 11, _, _, _, _, _⟩) rfl (fun K hK => ?_) AllReadyH.nil)
          · obtain ⟨hS1, hS2⟩ := hHeld
            go_simp
            (go_at_call 18; (with_reducible refine (DQ.out _).mono ?_); rintro e wq5 ⟨rfl, hs5⟩; clear c0 c1 c2 c3 c4 c5 lc fc; obtain ⟨c0, c1, c2, c3, c4, c5⟩ := At.z6 (HC.out.blk.fut (w' := wq5)).at0; have lc := (HC.out.blk.fut (w' := wq5)).lt; have fc := (HC.out.blk.fut (w' := wq5)).free; (try (have hx_ := HXB.out.fut (w' := wq5); clear HXB; have HXB := hide hx_; clear hx_)))
            refine hK.out _ _ (by (try dsimp only); (exact ⟨trivial, trivial⟩)) (fun hHeld => ?_)
            clear hK K
            (try simp only [Act.put, List.setIfInBounds_toArray, List.set_cons_zero, List.set_cons_succ])
            refine wpAnyH_take (i := 3) (oi := ⟨some 58, _, _, _, _, _⟩) (v := ?_) rfl (by kernel_rfl) (by kernel_rfl) (by kernel_rfl) (fun _ _ _ h => h) (Or.inl ⟨by rfl, ?_⟩) (by assumption) ?_
            rotate_left
            · ((intro w hSw); (try dsimp only at hSw); go_simp; (try with_reducible rfl))
            (try simp only [Act.put, List.setIfInBounds_toArray, List.set_cons_zero, List.set_cons_succ])
            refine wpAnyH_ready (rs := [4, 8]) (by kernel_rfl) (by simp) ?_
            refine AllReadyH.cons (o := ⟨some 59, _, _, _, _, _⟩) rfl (fun K hK => ?_) (AllReadyH.cons (o := ⟨some 11, _, _, _, _, _⟩) rfl (fun K hK => ?_) AllReadyH.nil)
            · obtain ⟨hS1, hS2⟩ := hHeld
              go_simp
              (go_at_call 17; (with_reducible refine (GT.out _ inferInstance).mono ?_); rintro e wq6 ⟨⟨k24, b24, n24, s24, A24, nl24, c24, AK24, nk24, cK24, rfl, HN4⟩, hs6⟩; clear c0 c1 c2 c3 c4 c5 lc fc; obtain ⟨c0, c1, c2, c3, c4, c5⟩ := At.z6 (HC.out.blk.fut (w' := wq6)).at0; have lc := (HC.out.blk.fut (w' := wq6)).lt; have fc := (HC.out.blk.fut (w' := wq6)).free; (try (have hx_ := HXB.out.fut (w' := wq6); clear HXB; have HXB := hide hx_; clear hx_)))
              refine hK.out _ _ (by (try dsimp only); (exact ⟨trivial, trivial⟩)) (fun hHeld => ?_)
              clear hK K
              (try simp only [Act.put, List.setIfInBounds_toArray, List.set_cons_zero, List.set_cons_succ])
              refine wpAnyH_take (i := 5) (oi := ⟨some 54, _, _, _, _, _⟩) (v := ?_) rfl (by kernel_rfl) (by kernel_rfl) (by kernel_rfl) (fun _ _ _ h => h) (Or.inl ⟨by rfl, ?_⟩) (by assumption) ?_
              rotate_left
              · ((intro w hSw); (try dsimp only at hSw); go_simp; (try with_reducible rfl))
              (try simp only [Act.put, List.setIfInBounds_toArray, List.set_cons_zero, List.set_cons_succ])
              refine wpAnyH_take (i := 6) (oi := ⟨some 60, _, _, _, _, _⟩) (v := ?_) rfl (by kernel_rfl) (by kernel_rfl) (by kernel_rfl) (fun _ _ _ h => h) (Or.inl ⟨by rfl, ?_⟩) (by assumption) ?_
              rotate_left
              · ((intro w hSw); (try dsimp only at hSw); go_simp; (try with_reducible rfl))
              (try simp only [Act.put, List.setIfInBounds_toArray, List.set_cons_zero, List.set_cons_succ])
              refine wpAnyH_take (i := 7) (oi := ⟨some 61, _, _, _, _, _⟩) (v := ?_) rfl (by kernel_rfl) (by kernel_rfl) (by kernel_rfl) (fun _ _ _ h => h) (Or.inl ⟨by rfl, ?_⟩) (by assumption) ?_
              rotate_left
              · ((intro w hSw); (try dsimp only at hSw); go_simp; (try with_reducible rfl))
              (try simp only [Act.put, List.setIfInBounds_toArray, List.set_cons_zero, List.set_cons_succ])
              refine wpAnyH_ready (rs := [8]) (by kernel_rfl) (by simp) ?_
              refine AllReadyH.cons (o := ⟨some 11, _, _, _, _, _⟩) rfl (fun K hK => ?_) AllReadyH.nil
              ((first | (have HXB := hide (Blk.new wq6 [.int .i64 0, .bool false, .int .i64 0, .string ⟨#[]⟩, .slice none 0 0, .slice none 0 0] 25)) | (have HXB := hide (Blk.new wq5 [.int .i64 0, .bool false, .int .i64 0, .string ⟨#[]⟩, .slice none 0 0, .slice none 0 0] 25)) | (have HXB := hide (Blk.new wo [.int .i64 0, .bool false, .int .i64 0, .string ⟨#[]⟩, .slice none 0 0, .slice none 0 0] 25))); go_simp)
              refine hK.out _ _ (by (try dsimp only); (exact ⟨trivial, trivial⟩)) (fun hHeld => ?_)
              clear hK K
              (try simp only [Act.put, List.setIfInBounds_toArray, List.set_cons_zero, List.set_cons_succ])
              refine wpAnyH_ready (rs := [9]) (by kernel_rfl) (by simp) ?_
              refine AllReadyH.cons (o := ⟨none, _, _, _, _, _⟩) rfl (fun K hK => ?_) AllReadyH.nil
              (obtain ⟨z0, z1, z2, z3, z4, z5⟩ := At.z6 HXB.out.at0; have lz := HXB.out.lt; have fz := HXB.out.free; go_simp)
              refine hK.out _ _ (by (try dsimp only); (exact ⟨trivial, trivial⟩)) (fun hHeld => ?_)
              clear hK K
              (try simp only [Act.put, List.setIfInBounds_toArray, List.set_cons_zero, List.set_cons_succ])
              refine wpAnyH_take (i := 10) (oi := ⟨some 12, _, _, _, _, _⟩) (v := ?_) rfl (by kernel_rfl) (by kernel_rfl) (by kernel_rfl) (fun _ _ _ h => h) (Or.inl ⟨by rfl, ?_⟩) (by assumption) ?_
              rotate_left
              · ((intro w hSw); (try dsimp only at hSw); go_simp; (try with_reducible rfl))
              (try simp only [Act.put, List.setIfInBounds_toArray, List.set_cons_zero, List.set_cons_succ])
              refine wpAnyH_done (by kernel_rfl) ?_ _
              go_wp2_with fail
              go_meet
              case rel =>
                obtain rfl := HN4.out
                first
                  | (have k6 := Blk.new wq6 [.int .i64 k24, .bool b24, .int .i64 (10 * (q : Int)), .string s24, .slice A24 nl24 c24, .slice AK24 nk24 cK24] 25; have k7 := (At.z6 k6.at0).2.2.1; have k8 := k6.lt; with_reducible exact ⟨_, rfl, rfl, Newer.le, k8, k7, Step.of⟩)
                  | (have k6 := set6_blk HXB.out (.int .i64 k24) (.bool b24) (.int .i64 (10 * (q : Int))) (.string s24) (.slice A24 nl24 c24) (.slice AK24 nk24 cK24); have k7 := (At.z6 k6.at0).2.2.1; have k8 := k6.lt; unfold set6 at k7 k8; with_reducible exact ⟨_, rfl, rfl, Newer.le, k8, k7, Step.of⟩)
            · ((first | (have HXB := hide (Blk.new wq6 [.int .i64 0, .bool false, .int .i64 0, .string ⟨#[]⟩, .slice none 0 0, .slice none 0 0] 25)) | (have HXB := hide (Blk.new wq5 [.int .i64 0, .bool false, .int .i64 0, .string ⟨#[]⟩, .slice none 0 0, .slice none 0 0] 25)) | (have HXB := hide (Blk.new wo [.int .i64 0, .bool false, .int .i64 0, .string ⟨#[]⟩, .slice none 0 0, .slice none 0 0] 25))); go_simp)
              refine hK.out _ _ (by (try dsimp only); (exact ⟨trivial, trivial⟩)) (fun hHeld => ?_)
              clear hK K
              (try simp only [Act.put, List.setIfInBounds_toArray, List.set_cons_zero, List.set_cons_succ])
              refine wpAnyH_ready (rs := [4]) (by kernel_rfl) (by simp) ?_
              refine AllReadyH.cons (o := ⟨some 59, _, _, _, _, _⟩) rfl (fun K hK => ?_) AllReadyH.nil
              obtain ⟨hS1, hS2⟩ := hHeld
              go_simp
              (go_at_call 17; (with_reducible refine (GT.out _ inferInstance).mono ?_); rintro e wq6 ⟨⟨k24, b24, n24, s24, A24, nl24, c24, AK24, nk24, cK24, rfl, HN4⟩, hs6⟩; clear c0 c1 c2 c3 c4 c5 lc fc; obtain ⟨c0, c1, c2, c3, c4, c5⟩ := At.z6 (HC.out.blk.fut (w' := wq6)).at0; have lc := (HC.out.blk.fut (w' := wq6)).lt; have fc := (HC.out.blk.fut (w' := wq6)).free; (try (have hx_ := HXB.out.fut (w' := wq6); clear HXB; have HXB := hide hx_; clear hx_)))
              refine hK.out _ _ (by (try dsimp only); (exact ⟨trivial, trivial⟩)) (fun hHeld => ?_)
              clear hK K
              (try simp only [Act.put, List.setIfInBounds_toArray, List.set_cons_zero, List.set_cons_succ])
              refine wpAnyH_take (i := 5) (oi := ⟨some 54, _, _, _, _, _⟩) (v := ?_) rfl (by kernel_rfl) (by kernel_rfl) (by kernel_rfl) (fun _ _ _ h => h) (Or.inl ⟨by rfl, ?_⟩) (by assumption) ?_
              rotate_left
              · ((intro w hSw); (try dsimp only at hSw); go_simp; (try with_reducible rfl))
              (try simp only [Act.put, List.setIfInBounds_toArray, List.set_cons_zero, List.set_cons_succ])
              refine wpAnyH_take (i := 6) (oi := ⟨some 60, _, _, _, _, _⟩) (v := ?_) rfl (by kernel_rfl) (by kernel_rfl) (by kernel_rfl) (fun _ _ _ h => h) (Or.inl ⟨by rfl, ?_⟩) (by assumption) ?_
              rotate_left
              · ((intro w hSw); (try dsimp only at hSw); go_simp; (try with_reducible rfl))
              (try simp only [Act.put, List.setIfInBounds_toArray, List.set_cons_zero, List.set_cons_succ])
              refine wpAnyH_take (i := 7) (oi := ⟨some 61, _, _, _, _, _⟩) (v := ?_) rfl (by kernel_rfl) (by kernel_rfl) (by kernel_rfl) (fun _ _ _ h => h) (Or.inl ⟨by rfl, ?_⟩) (by assumption) ?_
              rotate_left
              · ((intro w hSw); (try dsimp only at hSw); go_simp; (try with_reducible rfl))
              (try simp only [Act.put, List.setIfInBounds_toArray, List.set_cons_zero, List.set_cons_succ])
              refine wpAnyH_ready (rs := [9]) (by kernel_rfl) (by simp) ?_
              refine AllReadyH.cons (o := ⟨none, _, _, _, _, _⟩) rfl (fun K hK => ?_) AllReadyH.nil
              (obtain ⟨z0, z1, z2, z3, z4, z5⟩ := At.z6 HXB.out.at0; have lz := HXB.out.lt; have fz := HXB.out.free; go_simp)
              refine hK.out _ _ (by (try dsimp only); (exact ⟨trivial, trivial⟩)) (fun hHeld => ?_)
              clear hK K
              (try simp only [Act.put, List.setIfInBounds_toArray, List.set_cons_zero, List.set_cons_succ])
              refine wpAnyH_take (i := 10) (oi := ⟨some 12, _, _, _, _, _⟩) (v := ?_) rfl (by kernel_rfl) (by kernel_rfl) (by kernel_rfl) (fun _ _ _ h => h) (Or.inl ⟨by rfl, ?_⟩) (by assumption) ?_
              rotate_left
              · ((intro w hSw); (try dsimp only at hSw); go_simp; (try with_reducible rfl))
              (try simp only [Act.put, List.setIfInBounds_toArray, List.set_cons_zero, List.set_cons_succ])
              refine wpAnyH_done (by kernel_rfl) ?_ _
              go_wp2_with fail
              go_meet
              case rel =>
                obtain rfl := HN4.out
                first
                  | (have k6 := Blk.new wq6 [.int .i64 k24, .bool b24, .int .i64 (10 * (q : Int)), .string s24, .slice A24 nl24 c24, .slice AK24 nk24 cK24] 25; have k7 := (At.z6 k6.at0).2.2.1; have k8 := k6.lt; with_reducible exact ⟨_, rfl, rfl, Newer.le, k8, k7, Step.of⟩)
                  | (have k6 := set6_blk HXB.out (.int .i64 k24) (.bool b24) (.int .i64 (10 * (q : Int))) (.string s24) (.slice A24 nl24 c24) (.slice AK24 nk24 cK24); have k7 := (At.z6 k6.at0).2.2.1; have k8 := k6.lt; unfold set6 at k7 k8; with_reducible exact ⟨_, rfl, rfl, Newer.le, k8, k7, Step.of⟩)
          · ((first | (have HXB := hide (Blk.new wq6 [.int .i64 0, .bool false, .int .i64 0, .string ⟨#[]⟩, .slice none 0 0, .slice none 0 0] 25)) | (have HXB := hide (Blk.new wq5 [.int .i64 0, .bool false, .int .i64 0, .string ⟨#[]⟩, .slice none 0 0, .slice none 0 0] 25)) | (have HXB := hide (Blk.new wo [.int .i64 0, .bool false, .int .i64 0, .string ⟨#[]⟩, .slice none 0 0, .slice none 0 0] 25))); go_simp)
            refine hK.out _ _ (by (try dsimp only); (exact ⟨trivial, trivial⟩)) (fun hHeld => ?_)
            clear hK K
            (try simp only [Act.put, List.setIfInBounds_toArray, List.set_cons_zero, List.set_cons_succ])
            refine wpAnyH_ready (rs := [2]) (by kernel_rfl) (by simp) ?_
            refine AllReadyH.cons (o := ⟨some 57, _, _, _, _, _⟩) rfl (fun K hK => ?_) AllReadyH.nil
            obtain ⟨hS1, hS2⟩ := hHeld
            go_simp
            (go_at_call 18; (with_reducible refine (DQ.out _).mono ?_); rintro e wq5 ⟨rfl, hs5⟩; clear c0 c1 c2 c3 c4 c5 lc fc; obtain ⟨c0, c1, c2, c3, c4, c5⟩ := At.z6 (HC.out.blk.fut (w' := wq5)).at0; have lc := (HC.out.blk.fut (w' := wq5)).lt; have fc := (HC.out.blk.fut (w' := wq5)).free; (try (have hx_ := HXB.out.fut (w' := wq5); clear HXB; have HXB := hide hx_; clear hx_)))
            refine hK.out _ _ (by (try dsimp only); (exact ⟨trivial, trivial⟩)) (fun hHeld => ?_)
            clear hK K
            (try simp only [Act.put, List.setIfInBounds_toArray, List.set_cons_zero, List.set_cons_succ])
            refine wpAnyH_take (i := 3) (oi := ⟨some 58, _, _, _, _, _⟩) (v := ?_) rfl (by kernel_rfl) (by kernel_rfl) (by kernel_rfl) (fun _ _ _ h => h) (Or.inl ⟨by rfl, ?_⟩) (by assumption) ?_
            rotate_left
            · ((intro w hSw); (try dsimp only at hSw); go_simp; (try with_reducible rfl))
            (try simp only [Act.put, List.setIfInBounds_toArray, List.set_cons_zero, List.set_cons_succ])
            refine wpAnyH_ready (rs := [4]) (by kernel_rfl) (by simp) ?_
            refine AllReadyH.cons (o := ⟨some 59, _, _, _, _, _⟩) rfl (fun K hK => ?_) AllReadyH.nil
            obtain ⟨hS1, hS2⟩ := hHeld
            go_simp
            (go_at_call 17; (with_reducible refine (GT.out _ inferInstance).mono ?_); rintro e wq6 ⟨⟨k24, b24, n24, s24, A24, nl24, c24, AK24, nk24, cK24, rfl, HN4⟩, hs6⟩; clear c0 c1 c2 c3 c4 c5 lc fc; obtain ⟨c0, c1, c2, c3, c4, c5⟩ := At.z6 (HC.out.blk.fut (w' := wq6)).at0; have lc := (HC.out.blk.fut (w' := wq6)).lt; have fc := (HC.out.blk.fut (w' := wq6)).free; (try (have hx_ := HXB.out.fut (w' := wq6); clear HXB; have HXB := hide hx_; clear hx_)))
            refine hK.out _ _ (by (try dsimp only); (exact ⟨trivial, trivial⟩)) (fun hHeld => ?_)
            clear hK K
            (try simp only [Act.put, List.setIfInBounds_toArray, List.set_cons_zero, List.set_cons_succ])
            refine wpAnyH_take (i := 5) (oi := ⟨some 54, _, _, _, _, _⟩) (v := ?_) rfl (by kernel_rfl) (by kernel_rfl) (by kernel_rfl) (fun _ _ _ h => h) (Or.inl ⟨by rfl, ?_⟩) (by assumption) ?_
            rotate_left
            · ((intro w hSw); (try dsimp only at hSw); go_simp; (try with_reducible rfl))
            (try simp only [Act.put, List.setIfInBounds_toArray, List.set_cons_zero, List.set_cons_succ])
            refine wpAnyH_take (i := 6) (oi := ⟨some 60, _, _, _, _, _⟩) (v := ?_) rfl (by kernel_rfl) (by kernel_rfl) (by kernel_rfl) (fun _ _ _ h => h) (Or.inl ⟨by rfl, ?_⟩) (by assumption) ?_
            rotate_left
            · ((intro w hSw); (try dsimp only at hSw); go_simp; (try with_reducible rfl))
            (try simp only [Act.put, List.setIfInBounds_toArray, List.set_cons_zero, List.set_cons_succ])
            refine wpAnyH_take (i := 7) (oi := ⟨some 61, _, _, _, _, _⟩) (v := ?_) rfl (by kernel_rfl) (by kernel_rfl) (by kernel_rfl) (fun _ _ _ h => h) (Or.inl ⟨by rfl, ?_⟩) (by assumption) ?_
            rotate_left
            · ((intro w hSw); (try dsimp only at hSw); go_simp; (try with_reducible rfl))
            (try simp only [Act.put, List.setIfInBounds_toArray, List.set_cons_zero, List.set_cons_succ])
            refine wpAnyH_ready (rs := [9]) (by kernel_rfl) (by simp) ?_
            refine AllReadyH.cons (o := ⟨none, _, _, _, _, _⟩) rfl (fun K hK => ?_) AllReadyH.nil
            (obtain ⟨z0, z1, z2, z3, z4, z5⟩ := At.z6 HXB.out.at0; have lz := HXB.out.lt; have fz := HXB.out.free; go_simp)
            refine hK.out _ _ (by (try dsimp only); (exact ⟨trivial, trivial⟩)) (fun hHeld => ?_)
            clear hK K
            (try simp only [Act.put, List.setIfInBounds_toArray, List.set_cons_zero, List.set_cons_succ])
            refine wpAnyH_take (i := 10) (oi := ⟨some 12, _, _, _, _, _⟩) (v := ?_) rfl (by kernel_rfl) (by kernel_rfl) (by kernel_rfl) (fun _ _ _ h => h) (Or.inl ⟨by rfl, ?_⟩) (by assumption) ?_
            rotate_left
            · ((intro w hSw); (try dsimp only at hSw); go_simp; (try with_reducible rfl))
            (try simp only [Act.put, List.setIfInBounds_toArray, List.set_cons_zero, List.set_cons_succ])
            refine wpAnyH_done (by kernel_rfl) ?_ _
            go_wp2_with fail
            go_meet
            case rel =>
              obtain rfl := HN4.out
              first
                | (have k6 := Blk.new wq6 [.int .i64 k24, .bool b24, .int .i64 (10 * (q : Int)), .string s24, .slice A24 nl24 c24, .slice AK24 nk24 cK24] 25; have k7 := (At.z6 k6.at0).2.2.1; have k8 := k6.lt; with_reducible exact ⟨_, rfl, rfl, Newer.le, k8, k7, Step.of⟩)
                | (have k6 := set6_blk HXB.out (.int .i64 k24) (.bool b24) (.int .i64 (10 * (q : Int))) (.string s24) (.slice A24 nl24 c24) (.slice AK24 nk24 cK24); have k7 := (At.z6 k6.at0).2.2.1; have k8 := k6.lt; unfold set6 at k7 k8; with_reducible exact ⟨_, rfl, rfl, Newer.le, k8, k7, Step.of⟩)
        · obtain ⟨hS1, hS2⟩ := hHeld
          go_simp
          (go_at_call 18; (with_reducible refine (DQ.out _).mono ?_); rintro e wq5 ⟨rfl, hs5⟩; clear c0 c1 c2 c3 c4 c5 lc fc; obtain ⟨c0, c1, c2, c3, c4, c5⟩ := At.z6 (HC.out.blk.fut (w' := wq5)).at0; have lc := (HC.out.blk.fut (w' := wq5)).lt; have fc := (HC.out.blk.fut (w' := wq5)).free; (try (have hx_ := HXB.out.fut (w' := wq5); clear HXB; have HXB := hide hx_; clear hx_)))
          refine hK.out _ _ (by (try dsimp only); (exact ⟨trivial, trivial⟩)) (fun hHeld => ?_)
          clear hK K
          (try simp only [Act.put, List.setIfInBounds_toArray, List.set_cons_zero, List.set_cons_succ])
          refine wpAnyH_take (i := 3) (oi := ⟨some 58, _, _, _, _, _⟩) (v := ?_) rfl (by kernel_rfl) (by kernel_rfl) (by kernel_rfl) (fun _ _ _ h => h) (Or.inl ⟨by rfl, ?_⟩) (by assumption) ?_
          rotate_left
          · ((intro w hSw); (try dsimp only at hSw); go_simp; (try with_reducible rfl))
          (try simp only [Act.put, List.setIfInBounds_toArray, List.set_cons_zero, List.set_cons_succ])
          refine wpAnyH_ready (rs := [0, 8]) (by kernel_rfl) (by simp) ?_
          refine AllReadyH.cons (o := ⟨some 55, _, _, _, _, _⟩) rfl (fun K hK => ?_) (AllReadyH.cons (o := ⟨some 11, _, _, _, _, _⟩) rfl (fun K hK => ?_) AllReadyH.nil)
          · go_simp
            refine hK.out _ _ (by (try dsimp only); (exact ⟨trivial, trivial⟩)) (fun hHeld => ?_)
            clear hK K
            (try simp only [Act.put, List.setIfInBounds_toArray, List.set_cons_zero, List.set_cons_succ])
            refine wpAnyH_ready (rs := [4, 8]) (by kernel_rfl) (by simp) ?_
            refine AllReadyH.cons (o := ⟨some 59, _, _, _, _, _⟩) rfl (fun K hK => ?_) (AllReadyH.cons (o := ⟨some 11, _, _, _, _, _⟩) rfl (fun K hK => ?_) AllReadyH.nil)
            · obtain ⟨hS1, hS2⟩ := hHeld
              go_simp
              (go_at_call 17; (with_reducible refine (GT.out _ inferInstance).mono ?_); rintro e wq6 ⟨⟨k24, b24, n24, s24, A24, nl24, c24, AK24, nk24, cK24, rfl, HN4⟩, hs6⟩; clear c0 c1 c2 c3 c4 c5 lc fc; obtain ⟨c0, c1, c2, c3, c4, c5⟩ := At.z6 (HC.out.blk.fut (w' := wq6)).at0; have lc := (HC.out.blk.fut (w' := wq6)).lt; have fc := (HC.out.blk.fut (w' := wq6)).free; (try (have hx_ := HXB.out.fut (w' := wq6); clear HXB; have HXB := hide hx_; clear hx_)))
              refine hK.out _ _ (by (try dsimp only); (exact ⟨trivial, trivial⟩)) (fun hHeld => ?_)
              clear hK K
              (try simp only [Act.put, List.setIfInBounds_toArray, List.set_cons_zero, List.set_cons_succ])
              refine wpAnyH_take (i := 5) (oi := ⟨some 54, _, _, _, _, _⟩) (v := ?_) rfl (by kernel_rfl) (by kernel_rfl) (by kernel_rfl) (fun _ _ _ h => h) (Or.inl ⟨by rfl, ?_⟩) (by assumption) ?_
              rotate_left
              · ((intro w hSw); (try dsimp only at hSw); go_simp; (try with_reducible rfl))
              (try simp only [Act.put, List.setIfInBounds_toArray, List.set_cons_zero, List.set_cons_succ])
              refine wpAnyH_take (i := 6) (oi := ⟨some 60, _, _, _, _, _⟩) (v := ?_) rfl (by kernel_rfl) (by kernel_rfl) (by kernel_rfl) (fun _ _ _ h => h) (Or.inl ⟨by rfl, ?_⟩) (by assumption) ?_
              rotate_left
              · ((intro w hSw); (try dsimp only at hSw); go_simp; (try with_reducible rfl))
              (try simp only [Act.put, List.setIfInBounds_toArray, List.set_cons_zero, List.set_cons_succ])
              refine wpAnyH_take (i := 7) (oi := ⟨some 61, _, _, _, _, _⟩) (v := ?_) rfl (by kernel_rfl) (by kernel_rfl) (by kernel_rfl) (fun _ _ _ h => h) (Or.inl ⟨by rfl, ?_⟩) (by assumption) ?_
              rotate_left
              · ((intro w hSw); (try dsimp only at hSw); go_simp; (try with_reducible rfl))
              (try simp only [Act.put, List.setIfInBounds_toArray, List.set_cons_zero, List.set_cons_succ])
              refine wpAnyH_ready (rs := [8]) (by kernel_rfl) (by simp) ?_
              refine AllReadyH.cons (o := ⟨some 11, _, _, _, _, _⟩) rfl (fun K hK => ?_) AllReadyH.nil
              ((first | (have HXB := hide (Blk.new wq6 [.int .i64 0, .bool false, .int .i64 0, .string ⟨#[]⟩, .slice none 0 0, .slice none 0 0] 25)) | (have HXB := hide (Blk.new wq5 [.int .i64 0, .bool false, .int .i64 0, .string ⟨#[]⟩, .slice none 0 0, .slice none 0 0] 25)) | (have HXB := hide (Blk.new wo [.int .i64 0, .bool false, .int .i64 0, .string ⟨#[]⟩, .slice none 0 0, .slice none 0 0] 25))); go_simp)
              refine hK.out _ _ (by (try dsimp only); (exact ⟨trivial, trivial⟩)) (fun hHeld => ?_)
              clear hK K
              (try simp only [Act.put, List.setIfInBounds_toArray, List.set_cons_zero, List.set_cons_succ])
              refine wpAnyH_ready (rs := [9]) (by kernel_rfl) (by simp) ?_
              refine AllReadyH.cons (o := ⟨none, _, _, _, _, _⟩) rfl (fun K hK => ?_) AllReadyH.nil
              (obtain ⟨z0, z1, z2, z3, z4, z5⟩ := At.z6 HXB.out.at0; have lz := HXB.out.lt; have fz := HXB.out.free; go_simp)
              refine hK.out _ _ (by (try dsimp only); (exact ⟨trivial, trivial⟩)) (fun hHeld => ?_)
              clear hK K
              (try simp only [Act.put, List.setIfInBounds_toArray, List.set_cons_zero, List.set_cons_succ])
              refine wpAnyH_take (i := 10) (oi := ⟨some 12, _, _, _, _, _⟩) (v := ?_) rfl (by kernel_rfl) (by kernel_rfl) (by kernel_rfl) (fun _ _ _ h => h) (Or.inl ⟨by rfl, ?_⟩) (by assumption) ?_
              rotate_left
              · ((intro w hSw); (try dsimp only at hSw); go_simp; (try with_reducible rfl))
              (try simp only [Act.put, List.setIfInBounds_toArray, List.set_cons_zero, List.set_cons_succ])
              refine wpAnyH_done (by kernel_rfl) ?_ _
              go_wp2_with fail
              go_meet
              case rel =>
                obtain rfl := HN4.out
                first
                  | (have k6 := Blk.new wq6 [.int .i64 k24, .bool b24, .int .i64 (10 * (q : Int)), .string s24, .slice A24 nl24 c24, .slice AK24 nk24 cK24] 25; have k7 := (At.z6 k6.at0).2.2.1; have k8 := k6.lt; with_reducible exact ⟨_, rfl, rfl, Newer.le, k8, k7, Step.of⟩)
                  | (have k6 := set6_blk HXB.out (.int .i64 k24) (.bool b24) (.int .i64 (10 * (q : Int))) (.string s24) (.slice A24 nl24 c24) (.slice AK24 nk24 cK24); have k7 := (At.z6 k6.at0).2.2.1; have k8 := k6.lt; unfold set6 at k7 k8; with_reducible exact ⟨_, rfl, rfl, Newer.le, k8, k7, Step.of⟩)
            · ((first | (have HXB := hide (Blk.new wq6 [.int .i64 0, .bool false, .int .i64 0, .string ⟨#[]⟩, .slice none 0 0, .slice none 0 0] 25)) | (have HXB := hide (Blk.new wq5 [.int .i64 0, .bool false, .int .i64 0, .string ⟨#[]⟩, .slice none 0 0, .slice none 0 0] 25)) | (have HXB := hide (Blk.new wo [.int .i64 0, .bool false, .int .i64 0, .string ⟨#[]⟩, .slice none 0 0, .slice none 0 0] 25))); go_simp)
              refine hK.out _ _ (by (try dsimp only); (exact ⟨trivial, trivial⟩)) (fun hHeld => ?_)
              clear hK K
              (try simp only [Act.put, List.setIfInBounds_toArray, List.set_cons_zero, List.set_cons_succ])
              refine wpAnyH_ready (rs := [4]) (by kernel_rfl) (by simp) ?_
              refine AllReadyH.cons (o := ⟨some 59, _, _, _, _, _⟩) rfl (fun K hK => ?_) AllReadyH.nil
              obtain ⟨hS1, hS2⟩ := hHeld
              go_simp
              (go_at_call 17; (with_reducible refine (GT.out _ inferInstance).mono ?_); rintro e wq6 ⟨⟨k24, b24, n24, s24, A24, nl24, c24, AK24, nk24, cK24, rfl, HN4⟩, hs6⟩; clear c0 c1 c2 c3 c4 c5 lc fc; obtain ⟨c0, c1, c2, c3, c4, c5⟩ := At.z6 (HC.out.blk.fut (w' := wq6)).at0; have lc := (HC.out.blk.fut (w' := wq6)).lt; have fc := (HC.out.blk.fut (w' := wq6)).free; (try (have hx_ := HXB.out.fut (w' := wq6); clear HXB; have HXB := hide hx_; clear hx_)))
              refine hK.out _ _ (by (try dsimp only); (exact ⟨trivial, trivial⟩)) (fun hHeld => ?_)
              clear hK K
              (try simp only [Act.put, List.setIfInBounds_toArray, List.set_cons_zero, List.set_cons_succ])
              refine wpAnyH_take (i := 5) (oi := ⟨some 54, _, _, _, _, _⟩) (v := ?_) rfl (by kernel_rfl) (by kernel_rfl) (by kernel_rfl) (fun _ _ _ h => h) (Or.inl ⟨by rfl, ?_⟩) (by assumption) ?_
              rotate_left
              · ((intro w hSw); (try dsimp only at hSw); go_simp; (try with_reducible rfl))
              (try simp only [Act.put, List.setIfInBounds_toArray, List.set_cons_zero, List.set_cons_succ])
              refine wpAnyH_take (i := 6) (oi := ⟨some 60, _, _, _, _, _⟩) (v := ?_) rfl (by kernel_rfl) (by kernel_rfl) (by kernel_rfl) (fun _ _ _ h => h) (Or.inl ⟨by rfl, ?_⟩) (by assumption) ?_
              rotate_left
              · ((intro w hSw); (try dsimp only at hSw); go_simp; (try with_reducible rfl))
              (try simp only [Act.put, List.setIfInBounds_toArray, List.set_cons_zero, List.set_cons_succ])
              refine wpAnyH_take (i := 7) (oi := ⟨some 61, _, _, _, _, _⟩) (v := ?_) rfl (by kernel_rfl) (by kernel_rfl) (by kernel_rfl) (fun _ _ _ h => h) (Or.inl ⟨by rfl, ?_⟩) (by assumption) ?_
              rotate_left
              · ((intro w hSw); (try dsimp only at hSw); go_simp; (try with_reducible rfl))
              (try simp only [Act.put, List.setIfInBounds_toArray, List.set_cons_zero, List.set_cons_succ])
              refine wpAnyH_ready (rs := [9]) (by kernel_rfl) (by simp) ?_
              refine AllReadyH.cons (o := ⟨none, _, _, _, _, _⟩) rfl (fun K hK => ?_) AllReadyH.nil
              (obtain ⟨z0, z1, z2, z3, z4, z5⟩ := At.z6 HXB.out.at0; have lz := HXB.out.lt; have fz := HXB.out.free; go_simp)
              refine hK.out _ _ (by (try dsimp only); (exact ⟨trivial, trivial⟩)) (fun hHeld => ?_)
              clear hK K
              (try simp only [Act.put, List.setIfInBounds_toArray, List.set_cons_zero, List.set_cons_succ])
              refine wpAnyH_take (i := 10) (oi := ⟨some 12, _, _, _, _, _⟩) (v := ?_) rfl (by kernel_rfl) (by kernel_rfl) (by kernel_rfl) (fun _ _ _ h => h) (Or.inl ⟨by rfl, ?_⟩) (by assumption) ?_
              rotate_left
              · ((intro w hSw); (try dsimp only at hSw); go_simp; (try with_reducible rfl))
              (try simp only [Act.put, List.setIfInBounds_toArray, List.set_cons_zero, List.set_cons_succ])
              refine wpAnyH_done (by kernel_rfl) ?_ _
              go_wp2_with fail
              go_meet
              case rel =>
                obtain rfl := HN4.out
                first
                  | (have k6 := Blk.new wq6 [.int .i64 k24, .bool b24, .int .i64 (10 * (q : Int)), .string s24, .slice A24 nl24 c24, .slice AK24 nk24 cK24] 25; have k7 := (At.z6 k6.at0).2.2.1; have k8 := k6.lt; with_reducible exact ⟨_, rfl, rfl, Newer.le, k8, k7, Step.of⟩)
                  | (have k6 := set6_blk HXB.out (.int .i64 k24) (.bool b24) (.int .i64 (10 * (q : Int))) (.string s24) (.slice A24 nl24 c24) (.slice AK24 nk24 cK24); have k7 := (At.z6 k6.at0).2.2.1; have k8 := k6.lt; unfold set6 at k7 k8; with_reducible exact ⟨_, rfl, rfl, Newer.le, k8, k7, Step.of⟩)
          · ((first | (have HXB := hide (Blk.new wq6 [.int .i64 0, .bool false, .int .i64 0, .string ⟨#[]⟩, .slice none 0 0, .slice none 0 0] 25)) | (have HXB := hide (Blk.new wq5 [.int .i64 0, .bool false, .int .i64 0, .string ⟨#[]⟩, .slice none 0 0, .slice none 0 0] 25)) | (have HXB := hide (Blk.new wo [.int .i64 0, .bool false, .int .i64 0, .string ⟨#[]⟩, .slice none 0 0, .slice none 0 0] 25))); go_simp)
            refine hK.out _ _ (by (try dsimp only); (exact ⟨trivial, trivial⟩)) (fun hHeld => ?_)
            clear hK K
            (try simp only [Act.put, List.setIfInBounds_toArray, List.set_cons_zero, List.set_cons_succ])
            refine wpAnyH_ready (rs := [0]) (by kernel_rfl) (by simp) ?_
            refine AllReadyH.cons (o := ⟨some 55, _, _, _, _, _⟩) rfl (fun K hK => ?_) AllReadyH.nil
            go_simp
            refine hK.out _ _ (by (try dsimp only); (exact ⟨trivial, trivial⟩)) (fun hHeld => ?_)
            clear hK K
            (try simp only [Act.put, List.setIfInBounds_toArray, List.set_cons_zero, List.set_cons_succ])
            refine wpAnyH_ready (rs := [4]) (by kernel_rfl) (by simp) ?_
            refine AllReadyH.cons (o := ⟨some 59, _, _, _, _, _⟩) rfl (fun K hK => ?_) AllReadyH.nil
            obtain ⟨hS1, hS2⟩ := hHeld
            go_simp
            (go_at_call 17; (with_reducible refine (GT.out _ inferInstance).mono ?_); rintro e wq6 ⟨⟨k24, b24, n24, s24, A24, nl24, c24, AK24, nk24, cK24, rfl, HN4⟩, hs6⟩; clear c0 c1 c2 c3 c4 c5 lc fc; obtain ⟨c0, c1, c2, c3, c4, c5⟩ := At.z6 (HC.out.blk.fut (w' := wq6)).at0; have lc := (HC.out.blk.fut (w' := wq6)).lt; have fc := (HC.out.blk.fut (w' := wq6)).free; (try (have hx_ := HXB.out.fut (w' := wq6); clear HXB; have HXB := hide hx_; clear hx_)))
            refine hK.out _ _ (by (try dsimp only); (exact ⟨trivial, trivial⟩)) (fun hHeld => ?_)
            clear hK K
            (try simp only [Act.put, List.setIfInBounds_toArray, List.set_cons_zero, List.set_cons_succ])
            refine wpAnyH_take (i := 5) (oi := ⟨some 54, _, _, _, _, _⟩) (v := ?_) rfl (by kernel_rfl) (by kernel_rfl) (by kernel_rfl) (fun _ _ _ h => h) (Or.inl ⟨by rfl, ?_⟩) (by assumption) ?_
            rotate_left
            · ((intro w hSw); (try dsimp only at hSw); go_simp; (try with_reducible rfl))
            (try simp only [Act.put, List.setIfInBounds_toArray, List.set_cons_zero, List.set_cons_succ])
            refine wpAnyH_take (i := 6) (oi := ⟨some 60, _, _, _, _, _⟩) (v := ?_) rfl (by kernel_rfl) (by kernel_rfl) (by kernel_rfl) (fun _ _ _ h => h) (Or.inl ⟨by rfl, ?_⟩) (by assumption) ?_
            rotate_left
            · ((intro w hSw); (try dsimp only at hSw); go_simp; (try with_reducible rfl))
            (try simp only [Act.put, List.setIfInBounds_toArray, List.set_cons_zero, List.set_cons_succ])
            refine wpAnyH_take (i := 7) (oi := ⟨some 61, _, _, _, _, _⟩) (v := ?_) rfl (by kernel_rfl) (by kernel_rfl) (by kernel_rfl) (fun _ _ _ h => h) (Or.inl ⟨by rfl, ?_⟩) (by assumption) ?_
            rotate_left
            · ((intro w hSw); (try dsimp only at hSw); go_simp; (try with_reducible rfl))
            (try simp only [Act.put, List.setIfInBounds_toArray, List.set_cons_zero, List.set_cons_succ])
            refine wpAnyH_ready (rs := [9]) (by kernel_rfl) (by simp) ?_
            refine AllReadyH.cons (o := ⟨none, _, _, _, _, _⟩) rfl (fun K hK => ?_) AllReadyH.nil
            (obtain ⟨z0, z1, z2, z3, z4, z5⟩ := At.z6 HXB.out.at0; have lz := HXB.out.lt; have fz := HXB.out.free; go_simp)
            refine hK.out _ _ (by (try dsimp only); (exact ⟨trivial, trivial⟩)) (fun hHeld => ?_)
            clear hK K
            (try simp only [Act.put, List.setIfInBounds_toArray, List.set_cons_zero, List.set_cons_succ])
            refine wpAnyH_take (i := 10) (oi := ⟨some 12, _, _, _, _, _⟩) (v := ?_) rfl (by kernel_rfl) (by kernel_rfl) (by kernel_rfl) (fun _ _ _ h => h) (Or.inl ⟨by rfl, ?_⟩) (by assumption) ?_
            rotate_left
            · ((intro w hSw); (try dsimp only at hSw); go_simp; (try with_reducible rfl))
            (try simp only [Act.put, List.setIfInBounds_toArray, List.set_cons_zero, List.set_cons_succ])
            refine wpAnyH_done (by kernel_rfl) ?_ _
            go_wp2_with fail
            go_meet
            case rel =>
              obtain rfl := HN4.out
              first
                | (have k6 := Blk.new wq6 [.int .i64 k24, .bool b24, .int .i64 (10 * (q : Int)), .string s24, .slice A24 nl24 c24, .slice AK24 nk24 cK24] 25; have k7 := (At.z6 k6.at0).2.2.1; have k8 := k6.lt; with_reducible exact ⟨_, rfl, rfl, Newer.le, k8, k7, Step.of⟩)
                | (have k6 := set6_blk HXB.out (.int .i64 k24) (.bool b24) (.int .i64 (10 * (q : Int))) (.string s24) (.slice A24 nl24 c24) (.slice AK24 nk24 cK24); have k7 := (At.z6 k6.at0).2.2.1; have k8 := k6.lt; unfold set6 at k7 k8; with_reducible exact ⟨_, rfl, rfl, Newer.le, k8, k7, Step.of⟩)
        · ((first | (have HXB := hide (Blk.new wq6 [.int .i64 0, .bool false, .int .i64 0, .string ⟨#[]⟩, .slice none 0 0, .slice none 0 0] 25)) | (have HXB := hide (Blk.new wq5 [.int .i64 0, .bool false, .int .i64 0, .string ⟨#[]⟩, .slice none 0 0, .slice none 0 0] 25)) | (have HXB := hide (Blk.new wo [.int .i64 0, .bool false, .int .i64 0, .string ⟨#[]⟩, .slice none 0 0, .slice none 0 0] 25))); go_simp)
          refine hK.out _ _ (by (try dsimp only); (exact ⟨trivial, trivial⟩)) (fun hHeld => ?_)
          clear hK K
          (try simp only [Act.put, List.setIfInBounds_toArray, List.set_cons_zero, List.set_cons_succ])
          refine wpAnyH_ready (rs := [0, 2]) (by kernel_rfl) (by simp) ?_
          refine AllReadyH.cons (o := ⟨some 55, _, _, _, _, _⟩) rfl (fun K hK => ?_) (AllReadyH.cons (o := ⟨some 57, _, _, _, _, _⟩) rfl (fun K hK => ?_) AllReadyH.nil)
          · go_simp
            refine hK.out _ _ (by (try dsimp only); (exact ⟨trivial, trivial⟩)) (fun hHeld => ?_)
            clear hK K
            (try simp only [Act.put, List.setIfInBounds_toArray, List.set_cons_zero, List.set_cons_succ])
            refine wpAnyH_ready (rs := [2]) (by kernel_rfl) (by simp) ?_
            refine AllReadyH.cons (o := ⟨some 57, _, _, _, _, _⟩) rfl (fun K hK => ?_) AllReadyH.nil
            obtain ⟨hS1, hS2⟩ := hHeld
            go_simp
            (go_at_call 18; (with_reducible refine (DQ.out _).mono ?_); rintro e wq5 ⟨rfl, hs5⟩; clear c0 c1 c2 c3 c4 c5 lc fc; obtain ⟨c0, c1, c2, c3, c4, c5⟩ := At.z6 (HC.out.blk.fut (w' := wq5)).at0; have lc := (HC.out.blk.fut (w' := wq5)).lt; have fc := (HC.out.blk.fut (w' := wq5)).free; (try (have hx_ := HXB.out.fut (w' := wq5); clear HXB; have HXB := hide hx_; clear hx_)))
            refine hK.out _ _ (by (try dsimp only); (exact ⟨trivial, trivial⟩)) (fun hHeld => ?_)
            clear hK K
            (try simp only [Act.put, List.setIfInBounds_toArray, List.set_cons_zero, List.set_cons_succ])
            refine wpAnyH_take (i := 3) (oi := ⟨some 58, _, _, _, _, _⟩) (v := ?_) rfl (by kernel_rfl) (by kernel_rfl) (by kernel_rfl) (fun _ _ _ h => h) (Or.inl ⟨by rfl, ?_⟩) (by assumption) ?_
            rotate_left
            · ((intro w hSw); (try dsimp only at hSw); go_simp; (try with_reducible rfl))
            (try simp only [Act.put, List.setIfInBounds_toArray, List.set_cons_zero, List.set_cons_succ])
            refine wpAnyH_ready (rs := [4]) (by kernel_rfl) (by simp) ?_
            refine AllReadyH.cons (o := ⟨some 59, _, _, _, _, _⟩) rfl (fun K hK => ?_) AllReadyH.nil
            obtain ⟨hS1, hS2⟩ := hHeld
            go_simp
            (go_at_call 17; (with_reducible refine (GT.out _ inferInstance).mono ?_); rintro e wq6 ⟨⟨k24, b24, n24, s24, A24, nl24, c24, AK24, nk24, cK24, rfl, HN4⟩, hs6⟩; clear c0 c1 c2 c3 c4 c5 lc fc; obtain ⟨c0, c1, c2, c3, c4, c5⟩ := At.z6 (HC.out.blk.fut (w' := wq6)).at0; have lc := (HC.out.blk.fut (w' := wq6)).lt; have fc := (HC.out.blk.fut (w' := wq6)).free; (try (have hx_ := HXB.out.fut (w' := wq6); clear HXB; have HXB := hide hx_; clear hx_)))
            refine hK.out _ _ (by (try dsimp only); (exact ⟨trivial, trivial⟩)) (fun hHeld => ?_)
            clear hK K
            (try simp only [Act.put, List.setIfInBounds_toArray, List.set_cons_zero, List.set_cons_succ])
            refine wpAnyH_take (i := 5) (oi := ⟨some 54, _, _, _, _, _⟩) (v := ?_) rfl (by kernel_rfl) (by kernel_rfl) (by kernel_rfl) (fun _ _ _ h => h) (Or.inl ⟨by rfl, ?_⟩) (by assumption) ?_
            rotate_left
            · ((intro w hSw); (try dsimp only at hSw); go_simp; (try with_reducible rfl))
            (try simp only [Act.put, List.setIfInBounds_toArray, List.set_cons_zero, List.set_cons_succ])
            refine wpAnyH_take (i := 6) (oi := ⟨some 60, _, _, _, _, _⟩) (v := ?_) rfl (by kernel_rfl) (by kernel_rfl) (by kernel_rfl) (fun _ _ _ h => h) (Or.inl ⟨by rfl, ?_⟩) (by assumption) ?_
            rotate_left
            · ((intro w hSw); (try dsimp only at hSw); go_simp; (try with_reducible rfl))
            (try simp only [Act.put, List.setIfInBounds_toArray, List.set_cons_zero, List.set_cons_succ])
            refine wpAnyH_take (i := 7) (oi := ⟨some 61, _, _, _, _, _⟩) (v := ?_) rfl (by kernel_rfl) (by kernel_rfl) (by kernel_rfl) (fun _ _ _ h => h) (Or.inl ⟨by rfl, ?_⟩) (by assumption) ?_
            rotate_left
            · ((intro w hSw); (try dsimp only at hSw); go_simp; (try with_reducible rfl))
            (try simp only [Act.put, List.setIfInBounds_toArray, List.set_cons_zero, List.set_cons_succ])
            refine wpAnyH_ready (rs := [9]) (by kernel_rfl) (by simp) ?_
            refine AllReadyH.cons (o := ⟨none, _, _, _, _, _⟩) rfl (fun K hK => ?_) AllReadyH.nil
            (obtain ⟨z0, z1, z2, z3, z4, z5⟩ := At.z6 HXB.out.at0; have lz := HXB.out.lt; have fz := HXB.out.free; go_simp)
            refine hK.out _ _ (by (try dsimp only); (exact ⟨trivial, trivial⟩)) (fun hHeld => ?_)
            clear hK K
            (try simp only [Act.put, List.setIfInBounds_toArray, List.set_cons_zero, List.set_cons_succ])
            refine wpAnyH_take (i := 10) (oi := ⟨some 12, _, _, _, _, _⟩) (v := ?_) rfl (by kernel_rfl) (by kernel_rfl) (by kernel_rfl) (fun _ _ _ h => h) (Or.inl ⟨by rfl, ?_⟩) (by assumption) ?_
            rotate_left
            · ((intro w hSw); (try dsimp only at hSw); go_simp; (try with_reducible rfl))
            (try simp only [Act.put, List.setIfInBounds_toArray, List.set_cons_zero, List.set_cons_succ])
            refine wpAnyH_done (by kernel_rfl) ?_ _
            go_wp2_with fail
            go_meet
            case rel =>
              obtain rfl := HN4.out
              first
                | (have k6 := Blk.new wq6 [.int .i64 k24, .bool b24, .int .i64 (10 * (q : Int)), .string s24, .slice A24 nl24 c24, .slice AK24 nk24 cK24] 25; have k7 := (At.z6 k6.at0).2.2.1; have k8 := k6.lt; with_reducible exact ⟨_, rfl, rfl, Newer.le, k8, k7, Step.of⟩)
                | (have k6 := set6_blk HXB.out (.int .i64 k24) (.bool b24) (.int .i64 (10 * (q : Int))) (.string s24) (.slice A24 nl24 c24) (.slice AK24 nk24 cK24); have k7 := (At.z6 k6.at0).2.2.1; have k8 := k6.lt; unfold set6 at k7 k8; with_reducible exact ⟨_, rfl, rfl, Newer.le, k8, k7, Step.of⟩)
          · obtain ⟨hS1, hS2⟩ := hHeld
            go_simp
            (go_at_call 18; (with_reducible refine (DQ.out _).mono ?_); rintro e wq5 ⟨rfl, hs5⟩; clear c0 c1 c2 c3 c4 c5 lc fc; obtain ⟨c0, c1, c2, c3, c4, c5⟩ := At.z6 (HC.out.blk.fut (w' := wq5)).at0; have lc := (HC.out.blk.fut (w' := wq5)).lt; have fc := (HC.out.blk.fut (w' := wq5)).free; (try (have hx_ := HXB.out.fut (w' := wq5); clear HXB; have HXB := hide hx_; clear hx_)))
            refine hK.out _ _ (by (try dsimp only); (exact ⟨trivial, trivial⟩)) (fun hHeld => ?_)
            clear hK K
            (try simp only [Act.put, List.setIfInBounds_toArray, List.set_cons_zero, List.set_cons_succ])
            refine wpAnyH_take (i := 3) (oi := ⟨some 58, _, _, _, _, _⟩) (v := ?_) rfl (by kernel_rfl) (by kernel_rfl) (by kernel_rfl) (fun _ _ _ h => h) (Or.inl ⟨by rfl, ?_⟩) (by assumption) ?_
            rotate_left
            · ((intro w hSw); (try dsimp only at hSw); go_simp; (try with_reducible rfl))
            (try simp only [Act.put, List.setIfInBounds_toArray, List.set_cons_zero, List.set_cons_succ])
            refine wpAnyH_ready (rs := [0]) (by kernel_rfl) (by simp) ?_
            refine AllReadyH.cons (o := ⟨some 55, _, _, _, _, _⟩) rfl (fun K hK => ?_) AllReadyH.nil
            go_simp
            refine hK.out _ _ (by (try dsimp only); (exact ⟨trivial, trivial⟩)) (fun hHeld => ?_)
            clear hK K
            (try simp only [Act.put, List.setIfInBounds_toArray, List.set_cons_zero, List.set_cons_succ])
            refine wpAnyH_ready (rs := [4]) (by kernel_rfl) (by simp) ?_
            refine AllReadyH.cons (o := ⟨some 59, _, _, _, _, _⟩) rfl (fun K hK => ?_) AllReadyH.nil
            obtain ⟨hS1, hS2⟩ := hHeld
            go_simp
            (go_at_call 17; (with_reducible refine (GT.out _ inferInstance).mono ?_); rintro e wq6 ⟨⟨k24, b24, n24, s24, A24, nl24, c24, AK24, nk24, cK24, rfl, HN4⟩, hs6⟩; clear c0 c1 c2 c3 c4 c5 lc fc; obtain ⟨c0, c1, c2, c3, c4, c5⟩ := At.z6 (HC.out.blk.fut (w' := wq6)).at0; have lc := (HC.out.blk.fut (w' := wq6)).lt; have fc := (HC.out.blk.fut (w' := wq6)).free; (try (have hx_ := HXB.out.fut (w' := wq6); clear HXB; have HXB := hide hx_; clear hx_)))
            refine hK.out _ _ (by (try dsimp only); (exact ⟨trivial, trivial⟩)) (fun hHeld => ?_)
            clear hK K
            (try simp only [Act.put, List.setIfInBounds_toArray, List.set_cons_zero, List.set_cons_succ])
            refine wpAnyH_take (i := 5) (oi := ⟨some 54, _, _, _, _, _⟩) (v := ?_) rfl (by kernel_rfl) (by kernel_rfl) (by kernel_rfl) (fun _ _ _ h => h) (Or.inl ⟨by rfl, ?_⟩) (by assumption) ?_
            rotate_left
            · ((intro w hSw); (try dsimp only at hSw); go_simp; (try with_reducible rfl))
            (try simp only [Act.put, List.setIfInBounds_toArray, List.set_cons_zero, List.set_cons_succ])
            refine wpAnyH_take (i := 6) (oi := ⟨some 60, _, _, _, _, _⟩) (v := ?_) rfl (by kernel_rfl) (by kernel_rfl) (by kernel_rfl) (fun _ _ _ h => h) (Or.inl ⟨by rfl, ?_⟩) (by assumption) ?_
            rotate_left
            · ((intro w hSw); (try dsimp only at hSw); go_simp; (try with_reducible rfl))
            (try simp only [Act.put, List.setIfInBounds_toArray, List.set_cons_zero, List.set_cons_succ])
            refine wpAnyH_take (i := 7) (oi := ⟨some 61, _, _, _, _, _⟩) (v := ?_) rfl (by kernel_rfl) (by kernel_rfl) (by kernel_rfl) (fun _ _ _ h => h) (Or.inl ⟨by rfl, ?_⟩) (by assumption) ?_
            rotate_left
            · ((intro w hSw); (try dsimp only at hSw); go_simp; (try with_reducible rfl))
            (try simp only [Act.put, List.setIfInBounds_toArray, List.set_cons_zero, List.set_cons_succ])
            refine wpAnyH_ready (rs := [9]) (by kernel_rfl) (by simp) ?_
            refine AllReadyH.cons (o := ⟨none, _, _, _, _, _⟩) rfl (fun K hK => ?_) AllReadyH.nil
            (obtain ⟨z0, z1, z2, z3, z4, z5⟩ := At.z6 HXB.out.at0; have lz := HXB.out.lt; have fz := HXB.out.free; go_simp)
            refine hK.out _ _ (by (try dsimp only); (exact ⟨trivial, trivial⟩)) (fun hHeld => ?_)
            clear hK K
            (try simp only [Act.put, List.setIfInBounds_toArray, List.set_cons_zero, List.set_cons_succ])
            refine wpAnyH_take (i := 10) (oi := ⟨some 12, _, _, _, _, _⟩) (v := ?_) rfl (by kernel_rfl) (by kernel_rfl) (by kernel_rfl) (fun _ _ _ h => h) (Or.inl ⟨by rfl, ?_⟩) (by assumption) ?_
            rotate_left
            · ((intro w hSw); (try dsimp only at hSw); go_simp; (try with_reducible rfl))
            (try simp only [Act.put, List.setIfInBounds_toArray, List.set_cons_zero, List.set_cons_succ])
            refine wpAnyH_done (by kernel_rfl) ?_ _
            go_wp2_with fail
            go_meet
            case rel =>
              obtain rfl := HN4.out
              first
                | (have k6 := Blk.new wq6 [.int .i64 k24, .bool b24, .int .i64 (10 * (q : Int)), .string s24, .slice A24 nl24 c24, .slice AK24 nk24 cK24] 25; have k7 := (At.z6 k6.at0).2.2.1; have k8 := k6.lt; with_reducible exact ⟨_, rfl, rfl, Newer.le, k8, k7, Step.of⟩)
                | (have k6 := set6_blk HXB.out (.int .i64 k24) (.bool b24) (.int .i64 (10 * (q : Int))) (.string s24) (.slice A24 nl24 c24) (.slice AK24 nk24 cK24); have k7 := (At.z6 k6.at0).2.2.1; have k8 := k6.lt; unfold set6 at k7 k8; with_reducible exact ⟨_, rfl, rfl, Newer.le, k8, k7, Step.of⟩)
      case rest =>
        obtain ⟨gp, rfl, rfl, hgp1, hgp2, hgn, hsc⟩ := hcut
        obtain ⟨Wc, rfl⟩ : ∃ x : World, x = wc := ⟨_, rfl⟩
        obtain ⟨t0, r0, hl0⟩ : ∃ t0 r0, l = t0 :: r0 := by
          have := HLL.out
          cases l with
          | nil => simp at this; omega
          | cons t0 r0 => exact ⟨t0, r0, rfl⟩
        have hj0 : t0.j = nJ 0 := by
          have h1 := HLK.out.1
          obtain ⟨i2, rfl⟩ : ∃ i2, i = i2 + 1 := ⟨i - 1, by omega⟩
          rw [hl0, T.js, List.range_succ_eq_map, List.map_cons] at h1
          injection h1
        obtain ⟨b0, rfl, hb0, hat0, ht0⟩ := HC.out.first hl0 HLL.out
        have hr0 : RdT wo t0 := ht0.rd (by rw [hj0]; exact fine_leaf (by decide) (by decide) (by decide))
        obtain ⟨k1, b1, n1, s1, A1, nl1, c1_, AK1, nk1, cK1, hcel, hrd1⟩ := Rdd.of hr0 hj0
        rw [hcel] at hat0
        have hat1 := hat0.below (fut wo Wc) hb0
        obtain ⟨y0, y1, y2, y3, y4, y5⟩ := At.z6 hat1
        have ly := Nat.lt_of_lt_of_le hb0 (fut wo Wc).size
        have HAT := hide hat0
        have GF : Hid (∀ w' (hf : Fut wo w'), Calls Tryd.prog 17 #[.agg #[.int .i64 k1, .bool b1, .int .i64 n1, .string s1, .slice A1 nl1 c1_, .slice AK1 nk1 cK1], .string ⟨#[107, 48]⟩] w' fun e w'' => (∃ (k26 : Int) (b26 : Bool) (n26 : Int) (s26 : ByteArray) (A26 : Option Addr) (nl26 c26 : Nat) (AK26 : Option Addr) (nk26 cK26 : Nat), e = .returned (.tuple #[.agg #[.int .i64 k26, .bool b26, .int .i64 n26, .string s26, .slice A26 nl26 c26, .slice AK26 nk26 cK26], .bool false])) ∧ Step w' w'') := fun w' hf => by
          have hst : Step wo w' := ⟨hf.below⟩
          have h := get_rdd wo hrd1 ⟨#[107, 48]⟩ w'
          rw [k_none] at h
          exact h.mono fun e w'' hh => by
            obtain ⟨⟨k26, b26, n26, s26, A26, nl26, c26, AK26, nk26, cK26, h1, h2⟩, h3⟩ := hh
            exact ⟨⟨k26, b26, n26, s26, A26, nl26, c26, AK26, nk26, cK26, h1⟩, h3⟩
        have PT : Hid (∀ w', Calls Tryd.prog 10 #[.string ⟨#[123, 34, 97, 34, 58, 49, 44, 34, 92, 117, 48, 48, 54, 49, 34, 58, 50, 125]⟩] w' fun e w'' => (∃ (k27 : Int) (b27 : Bool) (n27 : Int) (s27 : ByteArray) (A27 : Option Addr) (nl27 c27 : Nat) (AK27 : Option Addr) (nk27 cK27 : Nat), e = .returned (.tuple #[.agg #[.int .i64 k27, .bool b27, .int .i64 n27, .string s27, .slice A27 nl27 c27, .slice AK27 nk27 cK27], .int .i64 300])) ∧ Step w' w'') := fun w' => by
          have h := parse_rdd ⟨#[123, 34, 97, 34, 58, 49, 44, 34, 92, 117, 48, 48, 54, 49, 34, 58, 50, 125]⟩ w' (by decide)
          rw [k_twice] at h
          exact h.mono fun e w'' hh => by
            obtain ⟨⟨k27, b27, n27, s27, A27, nl27, c27, AK27, nk27, cK27, h1, h2⟩, h3⟩ := hh
            exact ⟨⟨k27, b27, n27, s27, A27, nl27, c27, AK27, nk27, cK27, h1⟩, h3⟩
        have hcell2 : ∀ w', Fut Wc w' → w'.cell? ⟨gp, 2, none⟩ = some (.int .i64 (10 * (q : Int))) := fun w' hf => ((bcell hf.below).1 gp 2 hgp2).trans hgn
        have HC2 := hide hcell2
        have hi1 : (0 : Int) < (i : Int) := by omega
        have hmu : (10 : Int) * (q : Int) ≤ 100 := by omega
        have hmu0 : 0 ≤ (10 : Int) * (q : Int) := by omega
        clear hcell2 hgn hat1 hat0 hrd1 hr0 ht0 hcel hj0 hl0
        have hbk := HC.out.blk.fut (w' := Wc)
        clear c0 c1 c2 c3 c4 c5 lc fc
        obtain ⟨c0, c1, c2, c3, c4, c5⟩ := At.z6 hbk.at0
        have lc := hbk.lt
        clear hbk
        go_upto_region 13 with (go_at_call 17; (with_reducible refine (GZ.out _ inferInstance).mono ?_); rintro e wz ⟨⟨k25, b25, n25, s25, A25, nl25, c25, AK25, nk25, cK25, rfl⟩, hsz⟩)
        obtain ⟨W25, hW25⟩ : ∃ W : World, W = wz.alloc (.cells #[.int .i64 k25, .bool b25, .int .i64 n25, .string s25, .slice A25 nl25 c25, .slice AK25 nk25 cK25] 25) := ⟨_, rfl⟩
        have HB25 : Hid (Blk W25 wz.heap.size 25 [.int .i64 k25, .bool b25, .int .i64 n25, .string s25, .slice A25 nl25 c25, .slice AK25 nk25 cK25]) := by rw [hW25]; exact Blk.new wz _ 25
        have SW25 : Step wz W25 := by rw [hW25]; exact Step.of
        rw [← hW25]
        clear hW25
        clear c0 c1 c2 c3 c4 c5 lc y0 y1 y2 y3 y4 y5 ly
        have hbk := HC.out.blk.fut (w' := W25)
        obtain ⟨c0, c1, c2, c3, c4, c5⟩ := At.z6 hbk.at0
        have lc := hbk.lt
        obtain ⟨y0, y1, y2, y3, y4, y5⟩ := At.z6 (HAT.out.below (fut wo W25) hb0)
        have ly := Nat.lt_of_lt_of_le hb0 (fut wo W25).size
        clear hbk
        go_upto_region 14 with (go_at_call 17; (with_reducible refine (GF.out _ inferInstance).mono ?_); rintro e wf ⟨⟨k26, b26, n26, s26, A26, nl26, c26, AK26, nk26, cK26, rfl⟩, hsf⟩)
        obtain ⟨W26, hW26⟩ : ∃ W : World, W = wf.alloc (.cells #[.int .i64 k26, .bool b26, .int .i64 n26, .string s26, .slice A26 nl26 c26, .slice AK26 nk26 cK26] 25) := ⟨_, rfl⟩
        have HB26 : Hid (Blk W26 wf.heap.size 25 [.int .i64 k26, .bool b26, .int .i64 n26, .string s26, .slice A26 nl26 c26, .slice AK26 nk26 cK26]) := by rw [hW26]; exact Blk.new wf _ 25
        have SW26 : Step wf W26 := by rw [hW26]; exact Step.of
        rw [← hW26]
        clear hW26
        clear c0 c1 c2 c3 c4 c5 lc y0 y1 y2 y3 y4 y5 ly
        have hbk := HC.out.blk.fut (w' := W26)
        obtain ⟨c0, c1, c2, c3, c4, c5⟩ := At.z6 hbk.at0
        have lc := hbk.lt
        have fc := hbk.free
        clear hbk
        have HC0 := hide (HC.out.step (w2 := W26))
        have HGR := hide (HC2.out W26 inferInstance)
        have HGL : Hid (gp < W26.heap.size) := Nat.lt_of_lt_of_le hgp2 (fut Wc W26).size
        obtain ⟨wr, rfl⟩ : ∃ x : World, x = W26 := ⟨_, rfl⟩
        have HK2J : Hid (J.mk 5 false 0 ⟨#[]⟩ (T.js (l ++ [T.zero])) (ks ++ [⟨#[107]⟩ ++ SD]) = kJ2 i q) := by show _ = _; rw [js_app, HLK.out.1, HLK.out.2.1, HKS.out, kJ2]; rfl
        have HF2 := hide (fine_kJ2 i q hK8 hq8)
        go_upto_region 15 with fail
        refine wp_region_held_drew (S := (fun _ => True ∧ True)) (by kernel_rfl) (by (try dsimp only); (exact ⟨trivial, trivial⟩)) (fun hHeld => ?_)
        refine wpAnyH_take (i := 0) (oi := ⟨some 76, _, _, _, _, _⟩) (v := ?_) rfl (by kernel_rfl) (by kernel_rfl) (by kernel_rfl) (fun _ _ _ h => h) (Or.inl ⟨by rfl, ?_⟩) (by assumption) ?_
        rotate_left
        · ((intro w hSw); (try dsimp only at hSw); go_simp; (try with_reducible rfl))
        (try simp only [Act.put, List.setIfInBounds_toArray, List.set_cons_zero, List.set_cons_succ])
        refine wpAnyH_take (i := 2) (oi := ⟨some 78, _, _, _, _, _⟩) (v := ?_) rfl (by kernel_rfl) (by kernel_rfl) (by kernel_rfl) (fun _ _ _ h => h) (Or.inl ⟨by rfl, ?_⟩) (by assumption) ?_
        rotate_left
        · ((intro w hSw); (try dsimp only at hSw); go_simp; (try with_reducible rfl))
        (try simp only [Act.put, List.setIfInBounds_toArray, List.set_cons_zero, List.set_cons_succ])
        refine wpAnyH_ready (rs := [1, 3]) (by kernel_rfl) (by simp) ?_
        refine AllReadyH.cons (o := ⟨some 77, _, _, _, _, _⟩) rfl (fun K hK => ?_) (AllReadyH.cons (o := ⟨some 79, _, _, _, _, _⟩) rfl (fun K hK => ?_) AllReadyH.nil)
        · go_simp
          refine hK.out _ _ (by (try dsimp only); (exact ⟨trivial, trivial⟩)) (fun hHeld => ?_)
          clear hK K
          (try simp only [Act.put, List.setIfInBounds_toArray, List.set_cons_zero, List.set_cons_succ])
          refine wpAnyH_ready (rs := [3]) (by kernel_rfl) (by simp) ?_
          refine AllReadyH.cons (o := ⟨some 79, _, _, _, _, _⟩) rfl (fun K hK => ?_) AllReadyH.nil
          obtain ⟨hS1, hS2⟩ := hHeld
          go_simp
          (go_at_call 18; (with_reducible refine (DQ.out _).mono ?_); rintro e w5 ⟨rfl, hs5⟩; have HC5 := hide (HC0.out.step (w2 := w5)); have HP5 := hide (((bcell (fut wr w5)).1 gp 2 HGL.out).trans HGR.out); clear c0 c1 c2 c3 c4 c5 lc fc; obtain ⟨c0, c1, c2, c3, c4, c5⟩ := At.z6 HC5.out.blk.at0; have lc := HC5.out.blk.lt; have fc := HC5.out.blk.free)
          refine hK.out _ _ (by (try dsimp only); (exact ⟨trivial, trivial⟩)) (fun hHeld => ?_)
          clear hK K
          (try simp only [Act.put, List.setIfInBounds_toArray, List.set_cons_zero, List.set_cons_succ])
          refine wpAnyH_take (i := 4) (oi := ⟨some 80, _, _, _, _, _⟩) (v := ?_) rfl (by kernel_rfl) (by kernel_rfl) (by kernel_rfl) (fun _ _ _ h => h) (Or.inl ⟨by rfl, ?_⟩) (by assumption) ?_
          rotate_left
          · ((intro w hSw); (try dsimp only at hSw); go_simp; (try with_reducible rfl))
          (try simp only [Act.put, List.setIfInBounds_toArray, List.set_cons_zero, List.set_cons_succ])
          refine wpAnyH_ready (rs := [5]) (by kernel_rfl) (by simp) ?_
          refine AllReadyH.cons (o := ⟨some 81, _, _, _, _, _⟩) rfl (fun K hK => ?_) AllReadyH.nil
          go_simp
          refine hK.out _ _ (by (try dsimp only); (exact ⟨trivial, trivial⟩)) (fun hHeld => ?_)
          clear hK K
          (try simp only [Act.put, List.setIfInBounds_toArray, List.set_cons_zero, List.set_cons_succ])
          refine wpAnyH_ready (rs := [6]) (by kernel_rfl) (by simp) ?_
          refine AllReadyH.cons (o := ⟨some 82, _, _, _, _, _⟩) rfl (fun K hK => ?_) AllReadyH.nil
          (have HC6 := hide (HC5.out.step (w2 := w5.alloc (.cells #[.string (⟨#[107]⟩ ++ SD)] 9))); refine step_append_slB rfl (.tmp 77) (.tmp 81) 23 rfl eiK (base := g + 1) (xs := strCells ks) rfl HC6.out.ok (keys_fit _) (ad := ⟨w5.heap.size, 0, none⟩) (c := 1) (y := [.string (⟨#[107]⟩ ++ SD)]) rfl (cells_at w5 [.string (⟨#[107]⟩ ++ SD)] 9) (keys_fit [(⟨#[107]⟩ : ByteArray) ++ SD]) (by rw [strCells, List.length_map, HKL.out]; omega) HC6.out.size (N := i + 1) (by rw [strCells, List.length_map, HKL.out]) ?_; intro A7 c7 w7 ho7 hg7 hb7 hA7; have HC8 := hide (HC6.out.addK hg7 ho7 hA7); have HP7 := hide ((cell_grown hg7 (by simp; have := (fut wr w5).size; have := HGL.out; omega) (fun e => by have := (HC.out.ok.lt _ e.symm).2; omega)).trans (((bcell (fut w5 (w5.alloc (.cells #[.string (⟨#[107]⟩ ++ SD)] 9)))).1 gp 2 (Nat.lt_of_lt_of_le HGL.out (fut wr w5).size)).trans HP5.out)); have HL7 := hide hg7.size; have hb7_ := HC6.out.blk.grown hg7 (by intro e; have := (HC6.out.ok.lt _ e.symm).1; omega); clear ho7 hg7 hb7 hA7; clear c0 c1 c2 c3 c4 c5 lc fc; obtain ⟨c0, c1, c2, c3, c4, c5⟩ := At.z6 hb7_.at0; have lc := hb7_.lt; have fc := hb7_.free; clear hb7_)
          refine hK.out _ _ (by (try dsimp only); (exact ⟨trivial, trivial⟩)) (fun hHeld => ?_)
          clear hK K
          (try simp only [Act.put, List.setIfInBounds_toArray, List.set_cons_zero, List.set_cons_succ])
          refine wpAnyH_take (i := 7) (oi := ⟨some 83, _, _, _, _, _⟩) (v := ?_) rfl (by kernel_rfl) (by kernel_rfl) (by kernel_rfl) (fun _ _ _ h => h) (Or.inl ⟨by rfl, ?_⟩) (by assumption) ?_
          rotate_left
          · ((intro w hSw); (try dsimp only at hSw); go_simp; (try with_reducible rfl))
          (try simp only [Act.put, List.setIfInBounds_toArray, List.set_cons_zero, List.set_cons_succ])
          refine wpAnyH_ready (rs := [8]) (by kernel_rfl) (by simp) ?_
          refine AllReadyH.cons (o := ⟨none, _, _, _, _, _⟩) rfl (fun K hK => ?_) AllReadyH.nil
          go_simp
          refine hK.out _ _ (by (try dsimp only); (exact ⟨trivial, trivial⟩)) (fun hHeld => ?_)
          clear hK K
          (try simp only [Act.put, List.setIfInBounds_toArray, List.set_cons_zero, List.set_cons_succ])
          refine wpAnyH_done (by kernel_rfl) ?_ _
          have HKL8 : Hid ((ks ++ [⟨#[107]⟩ ++ SD]).length = i + 1) := by show _ = _; rw [List.length_append, HKL.out]; rfl
          have HP8 : Hid ((w7.setCell ⟨g, 5, none⟩ (.slice A7 (i + 1) c7)).cell? ⟨gp, 2, none⟩ = some (.int .i64 (10 * (q : Int)))) := by
            have hz := HL7.out
            simp at hz
            exact (cell_grown (grown_setCell w7 g 5 _) (by have := (fut wr w5).size; have := HGL.out; omega) (by intro e; injection e with e; have := HC.out.blk.lt; omega)).trans HP7.out
          have HL8 : Hid (gp < (w7.setCell ⟨g, 5, none⟩ (.slice A7 (i + 1) c7)).heap.size) := by
            show _ < _
            have hz := HL7.out
            simp at hz
            have := (fut wr w5).size
            have := HGL.out
            simp
            omega
          obtain ⟨V, hV⟩ : ∃ V : World, V = w7.setCell ⟨g, 5, none⟩ (.slice A7 (i + 1) c7) := ⟨_, rfl⟩
          rw [← hV] at HC8 HP8 HL8
          rw [← hV]
          clear hV c0 c1 c2 c3 c4 c5 lc fc
          obtain ⟨c0, c1, c2, c3, c4, c5⟩ := At.z6 HC8.out.blk.at0
          have lc := HC8.out.blk.lt
          have fc := HC8.out.blk.free
          go_upto_region 17 with (at_builtin; have HC9 := hide (HC8.out.step (w2 := V.alloc (.cells #[.int .i64 0, .bool false, .int .i64 0, .string ⟨#[]⟩, .slice none 0 0, .slice none 0 0] 25))); refine wpList_append_slB rfl (.tmp 85) (.tmp 87) 22 rfl eiJ (base := g + 1) (xs := l.map T.cells) rfl HC9.out.ol (tree_fit _) (ad := ⟨V.heap.size, 0, none⟩) (c := 1) (y := [.int .i64 0, .bool false, .int .i64 0, .string ⟨#[]⟩, .slice none 0 0, .slice none 0 0]) rfl (cells_at V [.int .i64 0, .bool false, .int .i64 0, .string ⟨#[]⟩, .slice none 0 0, .slice none 0 0] 25) (tree_fit [T.zero]) (by rw [List.length_map, HLL.out]; omega) HC9.out.size (N := i + 1) (by rw [List.length_map, HLL.out]) ?_; intro A9 c9 w9 ho9 hg9 hb9 hA9; have HC10 := hide (HC9.out.addL (t := T.zero) (TAt.zero _ _) hg9 ho9 hA9); have HP9 := hide ((cell_grown hg9 (by simp; have := HL8.out; omega) (fun e => by have h1 := (HC.out.ol.lt _ e.symm).2; omega)).trans (((bcell (fut V (V.alloc (.cells #[.int .i64 0, .bool false, .int .i64 0, .string ⟨#[]⟩, .slice none 0 0, .slice none 0 0] 25)))).1 gp 2 HL8.out).trans HP8.out)); have HL9 := hide hg9.size; have hb9_ := HC9.out.blk.grown hg9 (by intro e; have := (HC9.out.ol.lt _ e.symm).1; omega); clear ho9 hg9 hb9 hA9 c0 c1 c2 c3 c4 c5 lc fc; obtain ⟨c0, c1, c2, c3, c4, c5⟩ := At.z6 hb9_.at0; have lc := hb9_.lt; have fc := hb9_.free; clear hb9_)
          have HP10 : Hid ((w9.setCell ⟨g, 4, none⟩ (.slice A9 (i + 1) c9)).cell? ⟨gp, 2, none⟩ = some (.int .i64 (10 * (q : Int)))) := by
            have hz := HL9.out
            simp at hz
            exact (cell_grown (grown_setCell w9 g 4 _) (by have := HL8.out; omega) (by intro e; injection e with e; have := HC.out.blk.lt; omega)).trans HP9.out
          have HL10 : Hid (gp < (w9.setCell ⟨g, 4, none⟩ (.slice A9 (i + 1) c9)).heap.size) := by
            show _ < _
            have hz := HL9.out
            simp at hz
            have := HL8.out
            simp
            omega
          obtain ⟨Y, hY⟩ : ∃ Y : World, Y = w9.setCell ⟨g, 4, none⟩ (.slice A9 (i + 1) c9) := ⟨_, rfl⟩
          rw [← hY] at HC10 HP10 HL10
          rw [← hY]
          clear hY c0 c1 c2 c3 c4 c5 lc fc
          have hsy : Step w Y := HC10.out.st
          have HR2 : Hid (Rdd Y (kJ2 i q) 5 false 0 ⟨#[]⟩ A9 (i + 1) c9 A7 (i + 1) c7) := HC10.out.rdd (by rw [List.length_append, HLL.out]; rfl) HKL8.out HK2J.out HF2.out
          have PR : Hid (∀ w' (hf : Fut Y w'), Calls Tryd.prog 15 #[.agg #[.int .i64 5, .bool false, .int .i64 0, .string ⟨#[]⟩, .slice A9 (i + 1) c9, .slice A7 (i + 1) c7]] w' fun e w'' => e = .returned (.tuple #[.string (printP (kJ2 i q)).1, .int .i64 300]) ∧ Step w' w'') := fun w' hf => by
            have hst : Step Y w' := ⟨hf.below⟩
            have h := print_rdd Y HR2.out w' (Tab.fut (w := w) HTB.out)
            rw [HK5.out] at h
            exact h
          obtain ⟨c0, c1, c2, c3, c4, c5⟩ := At.z6 HC10.out.blk.at0
          have lc := HC10.out.blk.lt
          go_upto_region 18 with (go_at_call 15; (with_reducible refine (PR.out _ inferInstance).mono ?_); rintro e wp ⟨rfl, hsp⟩)
          go_upto_region 19 with (go_at_call 10; (with_reducible refine (PT.out _).mono ?_); rintro e wt ⟨⟨k27, b27, n27, s27, A27, nl27, c27, AK27, nk27, cK27, rfl⟩, hst⟩)
          obtain ⟨W27, hW27⟩ : ∃ W : World, W = wt.alloc (.cells #[.int .i64 k27, .bool b27, .int .i64 n27, .string s27, .slice A27 nl27 c27, .slice AK27 nk27 cK27] 25) := ⟨_, rfl⟩
          have HB27 : Hid (Blk W27 wt.heap.size 25 [.int .i64 k27, .bool b27, .int .i64 n27, .string s27, .slice A27 nl27 c27, .slice AK27 nk27 cK27]) := by rw [hW27]; exact Blk.new wt _ 25
          have SW27 : Step wt W27 := by rw [hW27]; exact Step.of
          rw [← hW27]
          clear hW27
          clear c0 c1 c2 c3 c4 c5 lc
          have hgn := ((bcell (fut Y W27)).1 gp 2 HL10.out).trans HP10.out
          go_wp2_with (go_at_call 13; (with_reducible refine (NM.out _ _).mono ?_); rintro e w6 ⟨rfl, rfl⟩)
          go_ret
          exact ⟨rfl, Step.of⟩
        · obtain ⟨hS1, hS2⟩ := hHeld
          go_simp
          (go_at_call 18; (with_reducible refine (DQ.out _).mono ?_); rintro e w5 ⟨rfl, hs5⟩; have HC5 := hide (HC0.out.step (w2 := w5)); have HP5 := hide (((bcell (fut wr w5)).1 gp 2 HGL.out).trans HGR.out); clear c0 c1 c2 c3 c4 c5 lc fc; obtain ⟨c0, c1, c2, c3, c4, c5⟩ := At.z6 HC5.out.blk.at0; have lc := HC5.out.blk.lt; have fc := HC5.out.blk.free)
          refine hK.out _ _ (by (try dsimp only); (exact ⟨trivial, trivial⟩)) (fun hHeld => ?_)
          clear hK K
          (try simp only [Act.put, List.setIfInBounds_toArray, List.set_cons_zero, List.set_cons_succ])
          refine wpAnyH_take (i := 4) (oi := ⟨some 80, _, _, _, _, _⟩) (v := ?_) rfl (by kernel_rfl) (by kernel_rfl) (by kernel_rfl) (fun _ _ _ h => h) (Or.inl ⟨by rfl, ?_⟩) (by assumption) ?_
          rotate_left
          · ((intro w hSw); (try dsimp only at hSw); go_simp; (try with_reducible rfl))
          (try simp only [Act.put, List.setIfInBounds_toArray, List.set_cons_zero, List.set_cons_succ])
          refine wpAnyH_ready (rs := [1, 5]) (by kernel_rfl) (by simp) ?_
          refine AllReadyH.cons (o := ⟨some 77, _, _, _, _, _⟩) rfl (fun K hK => ?_) (AllReadyH.cons (o := ⟨some 81, _, _, _, _, _⟩) rfl (fun K hK => ?_) AllReadyH.nil)
          · go_simp
            refine hK.out _ _ (by (try dsimp only); (exact ⟨trivial, trivial⟩)) (fun hHeld => ?_)
            clear hK K
            (try simp only [Act.put, List.setIfInBounds_toArray, List.set_cons_zero, List.set_cons_succ])
            refine wpAnyH_ready (rs := [5]) (by kernel_rfl) (by simp) ?_
            refine AllReadyH.cons (o := ⟨some 81, _, _, _, _, _⟩) rfl (fun K hK => ?_) AllReadyH.nil
            go_simp
            refine hK.out _ _ (by (try dsimp only); (exact ⟨trivial, trivial⟩)) (fun hHeld => ?_)
            clear hK K
            (try simp only [Act.put, List.setIfInBounds_toArray, List.set_cons_zero, List.set_cons_succ])
            refine wpAnyH_ready (rs := [6]) (by kernel_rfl) (by simp) ?_
            refine AllReadyH.cons (o := ⟨some 82, _, _, _, _, _⟩) rfl (fun K hK => ?_) AllReadyH.nil
            (have HC6 := hide (HC5.out.step (w2 := w5.alloc (.cells #[.string (⟨#[107]⟩ ++ SD)] 9))); refine step_append_slB rfl (.tmp 77) (.tmp 81) 23 rfl eiK (base := g + 1) (xs := strCells ks) rfl HC6.out.ok (keys_fit _) (ad := ⟨w5.heap.size, 0, none⟩) (c := 1) (y := [.string (⟨#[107]⟩ ++ SD)]) rfl (cells_at w5 [.string (⟨#[107]⟩ ++ SD)] 9) (keys_fit [(⟨#[107]⟩ : ByteArray) ++ SD]) (by rw [strCells, List.length_map, HKL.out]; omega) HC6.out.size (N := i + 1) (by rw [strCells, List.length_map, HKL.out]) ?_; intro A7 c7 w7 ho7 hg7 hb7 hA7; have HC8 := hide (HC6.out.addK hg7 ho7 hA7); have HP7 := hide ((cell_grown hg7 (by simp; have := (fut wr w5).size; have := HGL.out; omega) (fun e => by have := (HC.out.ok.lt _ e.symm).2; omega)).trans (((bcell (fut w5 (w5.alloc (.cells #[.string (⟨#[107]⟩ ++ SD)] 9)))).1 gp 2 (Nat.lt_of_lt_of_le HGL.out (fut wr w5).size)).trans HP5.out)); have HL7 := hide hg7.size; have hb7_ := HC6.out.blk.grown hg7 (by intro e; have := (HC6.out.ok.lt _ e.symm).1; omega); clear ho7 hg7 hb7 hA7; clear c0 c1 c2 c3 c4 c5 lc fc; obtain ⟨c0, c1, c2, c3, c4, c5⟩ := At.z6 hb7_.at0; have lc := hb7_.lt; have fc := hb7_.free; clear hb7_)
            refine hK.out _ _ (by (try dsimp only); (exact ⟨trivial, trivial⟩)) (fun hHeld => ?_)
            clear hK K
            (try simp only [Act.put, List.setIfInBounds_toArray, List.set_cons_zero, List.set_cons_succ])
            refine wpAnyH_take (i := 7) (oi := ⟨some 83, _, _, _, _, _⟩) (v := ?_) rfl (by kernel_rfl) (by kernel_rfl) (by kernel_rfl) (fun _ _ _ h => h) (Or.inl ⟨by rfl, ?_⟩) (by assumption) ?_
            rotate_left
            · ((intro w hSw); (try dsimp only at hSw); go_simp; (try with_reducible rfl))
            (try simp only [Act.put, List.setIfInBounds_toArray, List.set_cons_zero, List.set_cons_succ])
            refine wpAnyH_ready (rs := [8]) (by kernel_rfl) (by simp) ?_
            refine AllReadyH.cons (o := ⟨none, _, _, _, _, _⟩) rfl (fun K hK => ?_) AllReadyH.nil
            go_simp
            refine hK.out _ _ (by (try dsimp only); (exact ⟨trivial, trivial⟩)) (fun hHeld => ?_)
            clear hK K
            (try simp only [Act.put, List.setIfInBounds_toArray, List.set_cons_zero, List.set_cons_succ])
            refine wpAnyH_done (by kernel_rfl) ?_ _
            have HKL8 : Hid ((ks ++ [⟨#[107]⟩ ++ SD]).length = i + 1) := by show _ = _; rw [List.length_append, HKL.out]; rfl
            have HP8 : Hid ((w7.setCell ⟨g, 5, none⟩ (.slice A7 (i + 1) c7)).cell? ⟨gp, 2, none⟩ = some (.int .i64 (10 * (q : Int)))) := by
              have hz := HL7.out
              simp at hz
              exact (cell_grown (grown_setCell w7 g 5 _) (by have := (fut wr w5).size; have := HGL.out; omega) (by intro e; injection e with e; have := HC.out.blk.lt; omega)).trans HP7.out
            have HL8 : Hid (gp < (w7.setCell ⟨g, 5, none⟩ (.slice A7 (i + 1) c7)).heap.size) := by
              show _ < _
              have hz := HL7.out
              simp at hz
              have := (fut wr w5).size
              have := HGL.out
              simp
              omega
            obtain ⟨V, hV⟩ : ∃ V : World, V = w7.setCell ⟨g, 5, none⟩ (.slice A7 (i + 1) c7) := ⟨_, rfl⟩
            rw [← hV] at HC8 HP8 HL8
            rw [← hV]
            clear hV c0 c1 c2 c3 c4 c5 lc fc
            obtain ⟨c0, c1, c2, c3, c4, c5⟩ := At.z6 HC8.out.blk.at0
            have lc := HC8.out.blk.lt
            have fc := HC8.out.blk.free
            go_upto_region 17 with (at_builtin; have HC9 := hide (HC8.out.step (w2 := V.alloc (.cells #[.int .i64 0, .bool false, .int .i64 0, .string ⟨#[]⟩, .slice none 0 0, .slice none 0 0] 25))); refine wpList_append_slB rfl (.tmp 85) (.tmp 87) 22 rfl eiJ (base := g + 1) (xs := l.map T.cells) rfl HC9.out.ol (tree_fit _) (ad := ⟨V.heap.size, 0, none⟩) (c := 1) (y := [.int .i64 0, .bool false, .int .i64 0, .string ⟨#[]⟩, .slice none 0 0, .slice none 0 0]) rfl (cells_at V [.int .i64 0, .bool false, .int .i64 0, .string ⟨#[]⟩, .slice none 0 0, .slice none 0 0] 25) (tree_fit [T.zero]) (by rw [List.length_map, HLL.out]; omega) HC9.out.size (N := i + 1) (by rw [List.length_map, HLL.out]) ?_; intro A9 c9 w9 ho9 hg9 hb9 hA9; have HC10 := hide (HC9.out.addL (t := T.zero) (TAt.zero _ _) hg9 ho9 hA9); have HP9 := hide ((cell_grown hg9 (by simp; have := HL8.out; omega) (fun e => by have h1 := (HC.out.ol.lt _ e.symm).2; omega)).trans (((bcell (fut V (V.alloc (.cells #[.int .i64 0, .bool false, .int .i64 0, .string ⟨#[]⟩, .slice none 0 0, .slice none 0 0] 25)))).1 gp 2 HL8.out).trans HP8.out)); have HL9 := hide hg9.size; have hb9_ := HC9.out.blk.grown hg9 (by intro e; have := (HC9.out.ol.lt _ e.symm).1; omega); clear ho9 hg9 hb9 hA9 c0 c1 c2 c3 c4 c5 lc fc; obtain ⟨c0, c1, c2, c3, c4, c5⟩ := At.z6 hb9_.at0; have lc := hb9_.lt; have fc := hb9_.free; clear hb9_)
            have HP10 : Hid ((w9.setCell ⟨g, 4, none⟩ (.slice A9 (i + 1) c9)).cell? ⟨gp, 2, none⟩ = some (.int .i64 (10 * (q : Int)))) := by
              have hz := HL9.out
              simp at hz
              exact (cell_grown (grown_setCell w9 g 4 _) (by have := HL8.out; omega) (by intro e; injection e with e; have := HC.out.blk.lt; omega)).trans HP9.out
            have HL10 : Hid (gp < (w9.setCell ⟨g, 4, none⟩ (.slice A9 (i + 1) c9)).heap.size) := by
              show _ < _
              have hz := HL9.out
              simp at hz
              have := HL8.out
              simp
              omega
            obtain ⟨Y, hY⟩ : ∃ Y : World, Y = w9.setCell ⟨g, 4, none⟩ (.slice A9 (i + 1) c9) := ⟨_, rfl⟩
            rw [← hY] at HC10 HP10 HL10
            rw [← hY]
            clear hY c0 c1 c2 c3 c4 c5 lc fc
            have hsy : Step w Y := HC10.out.st
            have HR2 : Hid (Rdd Y (kJ2 i q) 5 false 0 ⟨#[]⟩ A9 (i + 1) c9 A7 (i + 1) c7) := HC10.out.rdd (by rw [List.length_append, HLL.out]; rfl) HKL8.out HK2J.out HF2.out
            have PR : Hid (∀ w' (hf : Fut Y w'), Calls Tryd.prog 15 #[.agg #[.int .i64 5, .bool false, .int .i64 0, .string ⟨#[]⟩, .slice A9 (i + 1) c9, .slice A7 (i + 1) c7]] w' fun e w'' => e = .returned (.tuple #[.string (printP (kJ2 i q)).1, .int .i64 300]) ∧ Step w' w'') := fun w' hf => by
              have hst : Step Y w' := ⟨hf.below⟩
              have h := print_rdd Y HR2.out w' (Tab.fut (w := w) HTB.out)
              rw [HK5.out] at h
              exact h
            obtain ⟨c0, c1, c2, c3, c4, c5⟩ := At.z6 HC10.out.blk.at0
            have lc := HC10.out.blk.lt
            go_upto_region 18 with (go_at_call 15; (with_reducible refine (PR.out _ inferInstance).mono ?_); rintro e wp ⟨rfl, hsp⟩)
            go_upto_region 19 with (go_at_call 10; (with_reducible refine (PT.out _).mono ?_); rintro e wt ⟨⟨k27, b27, n27, s27, A27, nl27, c27, AK27, nk27, cK27, rfl⟩, hst⟩)
            obtain ⟨W27, hW27⟩ : ∃ W : World, W = wt.alloc (.cells #[.int .i64 k27, .bool b27, .int .i64 n27, .string s27, .slice A27 nl27 c27, .slice AK27 nk27 cK27] 25) := ⟨_, rfl⟩
            have HB27 : Hid (Blk W27 wt.heap.size 25 [.int .i64 k27, .bool b27, .int .i64 n27, .string s27, .slice A27 nl27 c27, .slice AK27 nk27 cK27]) := by rw [hW27]; exact Blk.new wt _ 25
            have SW27 : Step wt W27 := by rw [hW27]; exact Step.of
            rw [← hW27]
            clear hW27
            clear c0 c1 c2 c3 c4 c5 lc
            have hgn := ((bcell (fut Y W27)).1 gp 2 HL10.out).trans HP10.out
            go_wp2_with (go_at_call 13; (with_reducible refine (NM.out _ _).mono ?_); rintro e w6 ⟨rfl, rfl⟩)
            go_ret
            exact ⟨rfl, Step.of⟩
          · go_simp
            refine hK.out _ _ (by (try dsimp only); (exact ⟨trivial, trivial⟩)) (fun hHeld => ?_)
            clear hK K
            (try simp only [Act.put, List.setIfInBounds_toArray, List.set_cons_zero, List.set_cons_succ])
            refine wpAnyH_ready (rs := [1]) (by kernel_rfl) (by simp) ?_
            refine AllReadyH.cons (o := ⟨some 77, _, _, _, _, _⟩) rfl (fun K hK => ?_) AllReadyH.nil
            go_simp
            refine hK.out _ _ (by (try dsimp only); (exact ⟨trivial, trivial⟩)) (fun hHeld => ?_)
            clear hK K
            (try simp only [Act.put, List.setIfInBounds_toArray, List.set_cons_zero, List.set_cons_succ])
            refine wpAnyH_ready (rs := [6]) (by kernel_rfl) (by simp) ?_
            refine AllReadyH.cons (o := ⟨some 82, _, _, _, _, _⟩) rfl (fun K hK => ?_) AllReadyH.nil
            (have HC6 := hide (HC5.out.step (w2 := w5.alloc (.cells #[.string (⟨#[107]⟩ ++ SD)] 9))); refine step_append_slB rfl (.tmp 77) (.tmp 81) 23 rfl eiK (base := g + 1) (xs := strCells ks) rfl HC6.out.ok (keys_fit _) (ad := ⟨w5.heap.size, 0, none⟩) (c := 1) (y := [.string (⟨#[107]⟩ ++ SD)]) rfl (cells_at w5 [.string (⟨#[107]⟩ ++ SD)] 9) (keys_fit [(⟨#[107]⟩ : ByteArray) ++ SD]) (by rw [strCells, List.length_map, HKL.out]; omega) HC6.out.size (N := i + 1) (by rw [strCells, List.length_map, HKL.out]) ?_; intro A7 c7 w7 ho7 hg7 hb7 hA7; have HC8 := hide (HC6.out.addK hg7 ho7 hA7); have HP7 := hide ((cell_grown hg7 (by simp; have := (fut wr w5).size; have := HGL.out; omega) (fun e => by have := (HC.out.ok.lt _ e.symm).2; omega)).trans (((bcell (fut w5 (w5.alloc (.cells #[.string (⟨#[107]⟩ ++ SD)] 9)))).1 gp 2 (Nat.lt_of_lt_of_le HGL.out (fut wr w5).size)).trans HP5.out)); have HL7 := hide hg7.size; have hb7_ := HC6.out.blk.grown hg7 (by intro e; have := (HC6.out.ok.lt _ e.symm).1; omega); clear ho7 hg7 hb7 hA7; clear c0 c1 c2 c3 c4 c5 lc fc; obtain ⟨c0, c1, c2, c3, c4, c5⟩ := At.z6 hb7_.at0; have lc := hb7_.lt; have fc := hb7_.free; clear hb7_)
            refine hK.out _ _ (by (try dsimp only); (exact ⟨trivial, trivial⟩)) (fun hHeld => ?_)
            clear hK K
            (try simp only [Act.put, List.setIfInBounds_toArray, List.set_cons_zero, List.set_cons_succ])
            refine wpAnyH_take (i := 7) (oi := ⟨some 83, _, _, _, _, _⟩) (v := ?_) rfl (by kernel_rfl) (by kernel_rfl) (by kernel_rfl) (fun _ _ _ h => h) (Or.inl ⟨by rfl, ?_⟩) (by assumption) ?_
            rotate_left
            · ((intro w hSw); (try dsimp only at hSw); go_simp; (try with_reducible rfl))
            (try simp only [Act.put, List.setIfInBounds_toArray, List.set_cons_zero, List.set_cons_succ])
            refine wpAnyH_ready (rs := [8]) (by kernel_rfl) (by simp) ?_
            refine AllReadyH.cons (o := ⟨none, _, _, _, _, _⟩) rfl (fun K hK => ?_) AllReadyH.nil
            go_simp
            refine hK.out _ _ (by (try dsimp only); (exact ⟨trivial, trivial⟩)) (fun hHeld => ?_)
            clear hK K
            (try simp only [Act.put, List.setIfInBounds_toArray, List.set_cons_zero, List.set_cons_succ])
            refine wpAnyH_done (by kernel_rfl) ?_ _
            have HKL8 : Hid ((ks ++ [⟨#[107]⟩ ++ SD]).length = i + 1) := by show _ = _; rw [List.length_append, HKL.out]; rfl
            have HP8 : Hid ((w7.setCell ⟨g, 5, none⟩ (.slice A7 (i + 1) c7)).cell? ⟨gp, 2, none⟩ = some (.int .i64 (10 * (q : Int)))) := by
              have hz := HL7.out
              simp at hz
              exact (cell_grown (grown_setCell w7 g 5 _) (by have := (fut wr w5).size; have := HGL.out; omega) (by intro e; injection e with e; have := HC.out.blk.lt; omega)).trans HP7.out
            have HL8 : Hid (gp < (w7.setCell ⟨g, 5, none⟩ (.slice A7 (i + 1) c7)).heap.size) := by
              show _ < _
              have hz := HL7.out
              simp at hz
              have := (fut wr w5).size
              have := HGL.out
              simp
              omega
            obtain ⟨V, hV⟩ : ∃ V : World, V = w7.setCell ⟨g, 5, none⟩ (.slice A7 (i + 1) c7) := ⟨_, rfl⟩
            rw [← hV] at HC8 HP8 HL8
            rw [← hV]
            clear hV c0 c1 c2 c3 c4 c5 lc fc
            obtain ⟨c0, c1, c2, c3, c4, c5⟩ := At.z6 HC8.out.blk.at0
            have lc := HC8.out.blk.lt
            have fc := HC8.out.blk.free
            go_upto_region 17 with (at_builtin; have HC9 := hide (HC8.out.step (w2 := V.alloc (.cells #[.int .i64 0, .bool false, .int .i64 0, .string ⟨#[]⟩, .slice none 0 0, .slice none 0 0] 25))); refine wpList_append_slB rfl (.tmp 85) (.tmp 87) 22 rfl eiJ (base := g + 1) (xs := l.map T.cells) rfl HC9.out.ol (tree_fit _) (ad := ⟨V.heap.size, 0, none⟩) (c := 1) (y := [.int .i64 0, .bool false, .int .i64 0, .string ⟨#[]⟩, .slice none 0 0, .slice none 0 0]) rfl (cells_at V [.int .i64 0, .bool false, .int .i64 0, .string ⟨#[]⟩, .slice none 0 0, .slice none 0 0] 25) (tree_fit [T.zero]) (by rw [List.length_map, HLL.out]; omega) HC9.out.size (N := i + 1) (by rw [List.length_map, HLL.out]) ?_; intro A9 c9 w9 ho9 hg9 hb9 hA9; have HC10 := hide (HC9.out.addL (t := T.zero) (TAt.zero _ _) hg9 ho9 hA9); have HP9 := hide ((cell_grown hg9 (by simp; have := HL8.out; omega) (fun e => by have h1 := (HC.out.ol.lt _ e.symm).2; omega)).trans (((bcell (fut V (V.alloc (.cells #[.int .i64 0, .bool false, .int .i64 0, .string ⟨#[]⟩, .slice none 0 0, .slice none 0 0] 25)))).1 gp 2 HL8.out).trans HP8.out)); have HL9 := hide hg9.size; have hb9_ := HC9.out.blk.grown hg9 (by intro e; have := (HC9.out.ol.lt _ e.symm).1; omega); clear ho9 hg9 hb9 hA9 c0 c1 c2 c3 c4 c5 lc fc; obtain ⟨c0, c1, c2, c3, c4, c5⟩ := At.z6 hb9_.at0; have lc := hb9_.lt; have fc := hb9_.free; clear hb9_)
            have HP10 : Hid ((w9.setCell ⟨g, 4, none⟩ (.slice A9 (i + 1) c9)).cell? ⟨gp, 2, none⟩ = some (.int .i64 (10 * (q : Int)))) := by
              have hz := HL9.out
              simp at hz
              exact (cell_grown (grown_setCell w9 g 4 _) (by have := HL8.out; omega) (by intro e; injection e with e; have := HC.out.blk.lt; omega)).trans HP9.out
            have HL10 : Hid (gp < (w9.setCell ⟨g, 4, none⟩ (.slice A9 (i + 1) c9)).heap.size) := by
              show _ < _
              have hz := HL9.out
              simp at hz
              have := HL8.out
              simp
              omega
            obtain ⟨Y, hY⟩ : ∃ Y : World, Y = w9.setCell ⟨g, 4, none⟩ (.slice A9 (i + 1) c9) := ⟨_, rfl⟩
            rw [← hY] at HC10 HP10 HL10
            rw [← hY]
            clear hY c0 c1 c2 c3 c4 c5 lc fc
            have hsy : Step w Y := HC10.out.st
            have HR2 : Hid (Rdd Y (kJ2 i q) 5 false 0 ⟨#[]⟩ A9 (i + 1) c9 A7 (i + 1) c7) := HC10.out.rdd (by rw [List.length_append, HLL.out]; rfl) HKL8.out HK2J.out HF2.out
            have PR : Hid (∀ w' (hf : Fut Y w'), Calls Tryd.prog 15 #[.agg #[.int .i64 5, .bool false, .int .i64 0, .string ⟨#[]⟩, .slice A9 (i + 1) c9, .slice A7 (i + 1) c7]] w' fun e w'' => e = .returned (.tuple #[.string (printP (kJ2 i q)).1, .int .i64 300]) ∧ Step w' w'') := fun w' hf => by
              have hst : Step Y w' := ⟨hf.below⟩
              have h := print_rdd Y HR2.out w' (Tab.fut (w := w) HTB.out)
              rw [HK5.out] at h
              exact h
            obtain ⟨c0, c1, c2, c3, c4, c5⟩ := At.z6 HC10.out.blk.at0
            have lc := HC10.out.blk.lt
            go_upto_region 18 with (go_at_call 15; (with_reducible refine (PR.out _ inferInstance).mono ?_); rintro e wp ⟨rfl, hsp⟩)
            go_upto_region 19 with (go_at_call 10; (with_reducible refine (PT.out _).mono ?_); rintro e wt ⟨⟨k27, b27, n27, s27, A27, nl27, c27, AK27, nk27, cK27, rfl⟩, hst⟩)
            obtain ⟨W27, hW27⟩ : ∃ W : World, W = wt.alloc (.cells #[.int .i64 k27, .bool b27, .int .i64 n27, .string s27, .slice A27 nl27 c27, .slice AK27 nk27 cK27] 25) := ⟨_, rfl⟩
            have HB27 : Hid (Blk W27 wt.heap.size 25 [.int .i64 k27, .bool b27, .int .i64 n27, .string s27, .slice A27 nl27 c27, .slice AK27 nk27 cK27]) := by rw [hW27]; exact Blk.new wt _ 25
            have SW27 : Step wt W27 := by rw [hW27]; exact Step.of
            rw [← hW27]
            clear hW27
            clear c0 c1 c2 c3 c4 c5 lc
            have hgn := ((bcell (fut Y W27)).1 gp 2 HL10.out).trans HP10.out
            go_wp2_with (go_at_call 13; (with_reducible refine (NM.out _ _).mono ?_); rintro e w6 ⟨rfl, rfl⟩)
            go_ret
            exact ⟨rfl, Step.of⟩
theorem jsonKeys_any (many at_ : Int) (twice : Bool) (w : World) (htb : Tab w) :
    Calls Tryd.prog 8 #[.int .i64 many, .int .i64 at_, .bool twice] w fun e w' => e = .returned (.bool true) ∧ Step w w' := by
  cases twice with
  | true => exact jkeys_twice many at_ w htb
  | false => exact jkeys_once many at_ w htb
end Go.Proofs.YtoibfefalflooaaDoor
