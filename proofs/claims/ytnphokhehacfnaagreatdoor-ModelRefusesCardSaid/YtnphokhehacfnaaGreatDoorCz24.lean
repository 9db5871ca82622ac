/-
  Texts put together: Dr, Kbm, Ds.
-/
import Derived.Test.YtnphokhehacfnaaGreatDoorCz01
import Derived.Test.YtnphokhehacfnaaGreatDoorCz05
import Derived.Test.YtnphokhehacfnaaGreatDoorCz06
import Derived.Test.YtnphokhehacfnaaGreatDoorCz16
import Derived.Test.YtnphokhehacfnaaGreatDoorCz23
namespace Go.Proofs.YtnphokhehacfnaaGreatDoor
open Go.RowKit

def sb25 : Sch := ⟨0, [⟨1, ⟨#[97]⟩, 1⟩, ⟨2, ⟨#[98]⟩, 3⟩], 3⟩
def fil25 (xs : List Int) : Tb := ⟨sb25, 0, [], (xs.take 20).map fun x => [kv25 x, Val.zero]⟩
theorem fil_0 : rnewR [⟨#[97]⟩, ⟨#[98]⟩] [1, 3] = (sb25, 0) := by kernel_rfl
theorem fil_1 : mayB sb25 = true := by kernel_rfl
theorem fil_2 : placesP sb25.cols [⟨#[97]⟩] [] = some [0] := by kernel_rfl
theorem fil_3 : specB 0 [] sb25 = true := by kernel_rfl
theorem kv_clean (x : Int) : clean (kv25 x) = kv25 x := rfl
theorem kv_whole (x : Int) : wholeB 1 (kv25 x) = true := by
  unfold wholeB
  rw [kv_clean, sameV_iff.2 rfl]
  rfl
theorem kv_value (x : Int) : valueB (kv25 x) = true := by
  unfold valueB
  rw [show (kv25 x).kind = 1 from rfl, kv_whole]
  rfl
theorem zero_whole3 : wholeB 3 Val.zero = true := by kernel_rfl
theorem fil_apply (xs : List Int) : applyP ⟨sb25, 0, [], []⟩ ⟨0, [⟨#[97]⟩], (xs.take 20).map fun x => [kv25 x], [], ⟨#[]⟩, ⟨#[]⟩, 0, ⟨0, 0, false, ⟨#[]⟩⟩, [], 0⟩ = (fil25 xs, 0) := by
  have hm : tabB ⟨sb25, 0, [], []⟩ = true := by kernel_rfl
  have hl : (xs.take 20).length ≤ 20 := by rw [List.length_take]; omega
  have hr : runP ⟨sb25, 0, [], []⟩ ⟨0, [⟨#[97]⟩], (xs.take 20).map fun x => [kv25 x], [], ⟨#[]⟩, ⟨#[]⟩, 0, ⟨0, 0, false, ⟨#[]⟩⟩, [], 0⟩ = .ok (fil25 xs) := by
    rw [runP, if_pos rfl, grow_eq]
    rw [if_neg (by show ¬ 64 < ((xs.take 20).map fun x => [kv25 x]).length; rw [List.length_map]; omega)]
    rw [if_neg (by
      show ¬ ((xs.take 20).map fun x => [kv25 x]).all (opRowB 1) = false
      rw [List.all_eq_true.2 (fun vs hvs => by
        obtain ⟨x, _, rfl⟩ := List.mem_map.1 hvs
        unfold opRowB
        rw [List.all_cons, kv_value]
        rfl)]
      simp)]
    show growC sb25 0 [] [] ((xs.take 20).map fun x => [kv25 x]) (placesP sb25.cols [⟨#[97]⟩] []) = _
    rw [fil_2, growC, if_neg (by
      rw [List.all_eq_true.2 (fun vs hvs => by
        obtain ⟨x, _, rfl⟩ := List.mem_map.1 hvs
        unfold kindsP
        rw [List.zip_cons_cons, List.all_cons]
        show (wholeB 1 (kv25 x) && _) = true
        rw [kv_whole]
        rfl)]
      simp), if_neg (by rw [List.length_map]; simp; omega)]
    simp only [fil25, List.nil_append, List.map_map]
    rfl
  rw [applyP_run hm (by show ¬ (0 : Int) < 0; omega) (by show ¬ (8 : Int) < 0; omega), hr]
theorem Own.fresh {w : World} {e : TypeId} {size : Nat} {cs : List Value} (hl : cs.length = size) : Own (w.alloc (.cells cs.toArray e)) w.heap.size e size (.slice (some ⟨w.heap.size, 0, none⟩) 1 1) [cs] :=
  Own.of_blk (Blk.new w cs e) (Nat.le_refl _) rfl (fun x hx => by simp at hx; subst hx; exact hl) (Nat.le_refl _) (by decide) (by simp [hl]) (by rw [List.take_of_length_le (by simp [hl])]; simp)
theorem TbOwnR.drewD {w : World} {b : Nat} {t : TbA} (h : TbOwnR w b t) : TbOwnR w.drew b t := h.fut
/-- Rows under way. -/
structure FilI (W7 wr : World) (Ac : Option Addr) (xs : List Int) (k : Nat) (A' : Option Addr) (c' : Nat) (rs : List RowA) : Prop where
  op : Blk wr W7.heap.size 38 [.int .i64 0, .string ⟨#[]⟩, .slice Ac 1 1, .slice A' k c', .slice none 0 0, .string ⟨#[]⟩, .string ⟨#[]⟩, .int .i64 0, .int .i64 0, .int .i64 0, .bool false, .string ⟨#[]⟩, .slice none 0 0, .int .i64 0, .int .i64 0, .int .i64 0]
  rows : OwnR wr W7.heap.size A' k c' rs
  vs : rs.map RowA.vs = (xs.take k).map fun x => [kv25 x]
  len : rs.length = k
  st : Step W7 wr
theorem FilI.next {W7 wo w7 : World} {Ac : Option Addr} {xs : List Int} {k : Nat} {A' A7 : Option Addr} {c' c7 : Nat} {rs : List RowA} {x : Int} (h : FilI W7 wo Ac xs k A' c' rs) (hx : xs[k]? = some x)
    (ho : Own w7 W7.heap.size 67 1 (.slice A7 (k + 1) c7) (rs.map RowA.cells ++ [[.slice (some ⟨wo.heap.size, 0, none⟩) 1 1]])) (hg : (((wo.alloc (.cells #[.int .i64 1, .int .i64 x, .bool false, .string ⟨#[]⟩] 36)).alloc (.cells #[.slice (some ⟨wo.heap.size, 0, none⟩) 1 1] 67)).drew).grownBy w7 (Value.slice A' k c').ownBlock) (hs : Below W7.heap.size W7 w7) :
    FilI W7 (w7.setCell ⟨W7.heap.size, 3, none⟩ (.slice A7 (k + 1) c7)) Ac xs (k + 1) A7 c7 (rs ++ [⟨some ⟨wo.heap.size, 0, none⟩, 1, [kv25 x]⟩]) := by
  have hrow := h.rows.out.fut (w' := ((wo.alloc (.cells #[.int .i64 1, .int .i64 x, .bool false, .string ⟨#[]⟩] 36)).alloc (.cells #[.slice (some ⟨wo.heap.size, 0, none⟩) 1 1] 67)).drew)
  have b2 := (h.op.fut (w' := ((wo.alloc (.cells #[.int .i64 1, .int .i64 x, .bool false, .string ⟨#[]⟩] 36)).alloc (.cells #[.slice (some ⟨wo.heap.size, 0, none⟩) 1 1] 67)).drew)).grown hg (hrow.ne_ (h.op.fut (w' := ((wo.alloc (.cells #[.int .i64 1, .int .i64 x, .bool false, .string ⟨#[]⟩] 36)).alloc (.cells #[.slice (some ⟨wo.heap.size, 0, none⟩) 1 1] 67)).drew)) (by decide))
  have hn0 : Own ((wo.alloc (.cells #[.int .i64 1, .int .i64 x, .bool false, .string ⟨#[]⟩] 36)).alloc (.cells #[.slice (some ⟨wo.heap.size, 0, none⟩) 1 1] 67)) W7.heap.size 36 4 (.slice (some ⟨wo.heap.size, 0, none⟩) 1 1) ([kv25 x].map Val.cells) := ((Own.fresh (w := wo) (e := 36) (cs := (kv25 x).cells) rfl).alloc _).more h.st.size
  have hn : Own (((wo.alloc (.cells #[.int .i64 1, .int .i64 x, .bool false, .string ⟨#[]⟩] 36)).alloc (.cells #[.slice (some ⟨wo.heap.size, 0, none⟩) 1 1] 67)).drew) W7.heap.size 36 4 (.slice (some ⟨wo.heap.size, 0, none⟩) 1 1) ([kv25 x].map Val.cells) := hn0.fut
  have od := OwnR.app (r := ⟨some ⟨wo.heap.size, 0, none⟩, 1, [kv25 x]⟩) (h.rows.fut (w' := ((wo.alloc (.cells #[.int .i64 1, .int .i64 x, .bool false, .string ⟨#[]⟩] 36)).alloc (.cells #[.slice (some ⟨wo.heap.size, 0, none⟩) 1 1] 67)).drew)) hn ho hg
  refine ⟨b2.set_ 3 _, ⟨od.out.set_other b2 (by decide) 3 _, fun z hz => (od.rows z hz).set_other b2 (by decide) 3 _⟩, ?_, by simp [h.len], ⟨hs.setCell (p := ⟨W7.heap.size, 3, none⟩) (Nat.le_refl _) _⟩⟩
  rw [List.map_append, h.vs, List.take_add_one, hx]
  simp
set_option maxRecDepth 100000 in
set_option maxHeartbeats 16000000 in
theorem filled_any {w0 : World} (xs : List Int) (A : Option Addr) (cap : Nat) (w : World) (h : SlAt w0 w0.heap.size 1 A (intCells xs)) [f0 : Fut w0 w] (hl : xs.length ≤ 4611686018427387904) (hr : ∀ x ∈ xs, -9223372036854775808 ≤ x ∧ x ≤ 9223372036854775807) :
    Calls Tryz.prog 35 #[.slice A xs.length cap] w fun e w' => ∃ t : TbA, e = .returned (.tuple #[.agg #[.int .i64 t.s.id, .slice t.As t.s.cols.length t.cs, .int .i64 t.s.next, .int .i64 t.sid, .slice t.Af t.fs.length t.cf, .slice t.Ar t.rs.length t.cr], .bool true]) ∧ t.tb = fil25 xs ∧ TbOwnR w' w.heap.size t ∧ Step w w' := by
  have z0_ := f0.below.size
  have HRG := hide hr
  clear hr
  obtain ⟨W0, hW0⟩ : ∃ x : World, x = w.alloc (.cells #[.int .i64 0, .slice none 0 0, .int .i64 0, .int .i64 0, .slice none 0 0, .slice none 0 0] 30) := ⟨_, rfl⟩
  have SW0 : Step w W0 := by rw [hW0]; exact Step.of
  have HRES : Hid (Blk W0 w.heap.size 30 [.int .i64 0, .slice none 0 0, .int .i64 0, .int .i64 0, .slice none 0 0, .slice none 0 0]) := by rw [hW0]; exact Blk.new w _ 30
  have HZ0 : Hid (W0.heap.size = w.heap.size + 1) := by rw [hW0]; show _ = _; simp
  obtain ⟨W1, hW1⟩ : ∃ x : World, x = (W0.alloc (.cells #[.string ⟨#[97]⟩, .string ⟨#[98]⟩] 9)).alloc (.cells #[.int .i64 1, .int .i64 3] 3) := ⟨_, rfl⟩
  have SW1 : Step W0 W1 := by rw [hW1]; exact Step.of
  have HW1 := hide hW1
  have NSC : Hid (Calls Tryz.prog 73 #[.slice (some ⟨W0.heap.size, 0, none⟩) 2 2, .slice (some ⟨W0.heap.size + 1, 0, none⟩) 2 2] W1 fun e w' => ∃ (A3 : Option Addr) (c3 : Nat), e = .returned (.tuple #[.agg #[.int .i64 0, .slice A3 2 c3, .int .i64 3], .int .i64 0]) ∧ 2 ≤ c3 ∧ c3 ≤ maxLen ∧ Own w' W1.heap.size 90 3 (.slice A3 2 c3) (sb25.cols.map Col.cells) ∧ Below W1.heap.size W1 w') := by
    have h1 := SlAt.strs2 (w := W0) rfl ⟨#[97]⟩ ⟨#[98]⟩
    have h2 := SlAt.ints2 (w := W0.alloc (.cells #[.string ⟨#[97]⟩, .string ⟨#[98]⟩] 9)) (b := W0.heap.size + 1) (by simp) 1 3
    have := rnew_any [⟨#[97]⟩, ⟨#[98]⟩] [1, 3] (some ⟨W0.heap.size, 0, none⟩) (some ⟨W0.heap.size + 1, 0, none⟩) 2 2 W1 (h1.al (.cells #[.int .i64 1, .int .i64 3] 3)) h2 (fn := by rw [hW1]; exact Fut.self _) (fk := by rw [hW1]; exact Fut.self _) (by decide) (fun n hn => by simp at hn; rcases hn with rfl | rfl <;> decide)
    rw [fil_0] at this
    exact this
  clear hW1
  go_enter Tryz.func35, Tryz.ntmps35
  go_upto_region 1 with fail
  rw [← hW0]
  clear hW0
  go_upto_region 2 with (go_at_call 73; rw [HW1.out.symm]; (with_reducible refine NSC.out.mono ?_); rintro e w3 ⟨A3, c3, rfl, hc3, hm3, ho3, hb3⟩; have HO3 := hide ho3; have HM3 := hide (⟨hc3, hm3⟩ : _ ∧ _); have hs3 : Step W1 w3 := ⟨hb3⟩; clear ho3 hc3 hm3 hb3)
  obtain ⟨X1, hX1⟩ : ∃ x : World, x = w3.alloc (.cells #[.int .i64 0, .slice A3 2 c3, .int .i64 3] 24) := ⟨_, rfl⟩
  have SX1 : Step w3 X1 := by rw [hX1]; exact Step.of
  have HSB : Hid (Blk X1 w3.heap.size 24 [.int .i64 0, .slice A3 2 c3, .int .i64 3]) := by rw [hX1]; exact Blk.new w3 _ 24
  rw [← hX1]
  clear hX1
  have HSI : Hid (SchIn X1 sb25 A3 c3) := ⟨HM3.out.1, by have := HM3.out.2; simpa [maxLen] using this, by decide, HO3.out.fut.sl (cols_fit _).len, fun c hc => by simp [sb25] at hc; rcases hc with rfl | rfl <;> decide⟩
  have NEWC : Hid (Calls Tryz.prog 27 #[.agg #[.int .i64 0, .slice A3 2 c3, .int .i64 3]] X1 fun e w' => ∃ (A' : Option Addr) (cap' : Nat), e = .returned (.tuple #[.agg #[.int .i64 0, .slice A' 2 cap', .int .i64 3, .int .i64 0, .slice none 0 0, .slice none 0 0], .int .i64 0]) ∧ 2 ≤ cap' ∧ Own w' X1.heap.size 90 3 (.slice A' 2 cap') (sb25.cols.map Col.cells) ∧ Step X1 w') := mnew_yes sb25 A3 c3 X1 HSI.out fil_1
  obtain ⟨s0, s1, s2⟩ := At.z3 HSB.out.at0
  have ls := HSB.out.lt
  go_upto_region 3 with (go_at_call 27; (with_reducible refine NEWC.out.mono ?_); rintro e w4 ⟨A4, c4, rfl, hc4, ho4, hs4⟩; have HO4 := hide ho4; have HC4 := hide hc4; clear ho4 hc4)
  clear s0 s1 s2 ls
  obtain ⟨W7, hW7⟩ : ∃ x : World, x = (w4.alloc (.cells #[.int .i64 0, .slice A4 2 c4, .int .i64 3, .int .i64 0, .slice none 0 0, .slice none 0 0] 30)).alloc (.cells #[.string ⟨#[97]⟩] 9) := ⟨_, rfl⟩
  have SW7 : Step w4 W7 := by rw [hW7]; exact Step.of
  have HT0B : Hid (Blk W7 w4.heap.size 30 [.int .i64 0, .slice A4 2 c4, .int .i64 3, .int .i64 0, .slice none 0 0, .slice none 0 0]) := by rw [hW7]; exact (Blk.new w4 _ 30).alloc _
  have HST : Hid (Blk W7 (w4.heap.size + 1) 9 [.string ⟨#[97]⟩]) := by rw [hW7]; exact Blk.new_at (by simp) _ 9
  have HZ7 : Hid (W7.heap.size = w4.heap.size + 2) := by rw [hW7]; show _ = _; simp
  obtain ⟨X8, hX8⟩ : ∃ x : World, x = W7.alloc (.cells #[.int .i64 0, .string ⟨#[]⟩, .slice (some ⟨w4.heap.size + 1, 0, none⟩) 1 1, .slice none 0 0, .slice none 0 0, .string ⟨#[]⟩, .string ⟨#[]⟩, .int .i64 0, .int .i64 0, .int .i64 0, .bool false, .string ⟨#[]⟩, .slice none 0 0, .int .i64 0, .int .i64 0, .int .i64 0] 38) := ⟨_, rfl⟩
  have SX8 : Step W7 X8 := by rw [hX8]; exact Step.of
  have HOP : Hid (Blk X8 W7.heap.size 38 [.int .i64 0, .string ⟨#[]⟩, .slice (some ⟨w4.heap.size + 1, 0, none⟩) 1 1, .slice none 0 0, .slice none 0 0, .string ⟨#[]⟩, .string ⟨#[]⟩, .int .i64 0, .int .i64 0, .int .i64 0, .bool false, .string ⟨#[]⟩, .slice none 0 0, .int .i64 0, .int .i64 0, .int .i64 0]) := by rw [hX8]; exact Blk.new W7 _ 38
  have HTI0 : Hid (TbIn W7 ⟨sb25, A4, c4, 0, [], none, 0, [], none, 0⟩) := tb_in (base := X1.heap.size) ⟨HO4.out.fut, Own.nil_ _ _ _ _, ⟨Own.nil_ _ _ _ _, fun r h => by simp at h⟩⟩ (by kernel_rfl)
  go_upto_region 4 with fail
  rw [hW7] at hX8
  rw [← hX8]
  rw [show w4.heap.size + 1 + 1 = W7.heap.size from HZ7.out.symm]
  clear hX8 hW7
  go_wp2_with fail
  have HFI0 : Hid (FilI W7 X8 (some ⟨w4.heap.size + 1, 0, none⟩) xs 0 none 0 []) := ⟨HOP.out, ⟨Own.nil_ _ _ _ _, fun r h => by simp at h⟩, rfl, rfl, SX8⟩
  go_loopw [9] (fun i wr => ∃ (k : Nat) (A' : Option Addr) (c' : Nat) (rs : List RowA), k ≤ xs.length ∧ k ≤ 20 ∧ i = .int .i64 k ∧ FilI W7 wr (some ⟨w4.heap.size + 1, 0, none⟩) xs k A' c' rs) (fun i _ => 20 - (intOf i).toNat)
  case atStart => exact ⟨0, none, 0, [], Nat.zero_le _, Nat.zero_le _, rfl, HFI0.out⟩
  case round =>
    clear HFI0
    obtain ⟨k, A', c', rs, hk, hk20, rfl, hfi⟩ := hrel
    obtain ⟨wo, rfl⟩ : ∃ x : World, x = wr := ⟨_, rfl⟩
    have HI := hide hfi
    have hst := hfi.st
    have hzo := hst.size
    have HLR := hide hfi.len
    clear hfi
    have hz7 : W7.heap.size ≤ wo.heap.size := hzo
    by_cases hc1 : k < xs.length
    · by_cases hc2 : k < 20
      · obtain ⟨b, off, hA, hb, hc⟩ := h.elem (w' := wo) inferInstance (k := k) (by rw [intCells_len]; exact hc1)
        obtain ⟨x, hx⟩ : ∃ x, xs[k]? = some x := ⟨_, List.getElem?_eq_getElem hc1⟩
        have y0 := At.l1 (hc k [.int .i64 x] (by simp [intCells, hx]))
        simp only [Nat.mul_one] at y0
        have hkl : (k : Int) < (xs.length : Int) := by omega
        have hk2 : (k : Int) < 20 := by omega
        have hk0 : (0 : Int) ≤ (k : Int) := by omega
        have hlb : b < wo.heap.size := by have := (fut w wo).size; omega
        have HXK := hide hx
        rw [hA]
        have HAA := hide hA
        clear hc hx hA
        go_upto_region 7 with fail
        obtain ⟨o0, o1, o2, o3, o4, o5, o6, o7, o8, o9, o10, o11, o12, o13, o14, o15⟩ := At.zOp (HI.out.op.fut (w' := wo)).at0
        have lo := (HI.out.op.fut (w' := wo)).lt
        have fo := (HI.out.op.fut (w' := wo)).free
        refine wp_region_held_drew (S := (fun w' => Step W7 w' ∧ True)) (by kernel_rfl) (by (try dsimp only); (exact ⟨Step.of, trivial⟩)) (fun hHeld => ?_)
        refine wT 0 35 (by assumption) ?_
        refine wT 2 37 (by assumption) ?_
        refine wT 3 38 (by assumption) ?_
        refine wT 4 39 (by assumption) ?_
        refine wpAnyH_ready (rs := [1, 5]) (by kernel_rfl) (by simp) ?_
        refine AllReadyH.cons (o := ⟨some 36, _, _, _, _, _⟩) rfl (fun K hK => ?_) (AllReadyH.cons (o := ⟨some 40, _, _, _, _, _⟩) rfl (fun K hK => ?_) AllReadyH.nil)
        · go_simp
          refine hK.out _ _ (by (try dsimp only); (exact ⟨Step.of, trivial⟩)) (fun hHeld => ?_)
          clear hK K
          (try simp only [Act.put, List.setIfInBounds_toArray, List.set_cons_zero, List.set_cons_succ])
          refine wpAnyH_ready (rs := [5]) (by kernel_rfl) (by simp) ?_
          refine AllReadyH.cons (o := ⟨some 40, _, _, _, _, _⟩) rfl (fun K hK => ?_) AllReadyH.nil
          go_simp
          refine hK.out _ _ (by (try dsimp only); (exact ⟨Step.of, trivial⟩)) (fun hHeld => ?_)
          clear hK K
          (try simp only [Act.put, List.setIfInBounds_toArray, List.set_cons_zero, List.set_cons_succ])
          refine wT 6 41 (by assumption) ?_
          refine wpAnyH_ready (rs := [7]) (by kernel_rfl) (by simp) ?_
          refine AllReadyH.cons (o := ⟨some 42, _, _, _, _, _⟩) rfl (fun K hK => ?_) AllReadyH.nil
          go_simp
          refine hK.out _ _ (by (try dsimp only); (exact ⟨Step.of, trivial⟩)) (fun hHeld => ?_)
          clear hK K
          (try simp only [Act.put, List.setIfInBounds_toArray, List.set_cons_zero, List.set_cons_succ])
          refine wT 8 43 (by assumption) ?_
          refine wpAnyH_ready (rs := [9]) (by kernel_rfl) (by simp) ?_
          refine AllReadyH.cons (o := ⟨some 44, _, _, _, _, _⟩) rfl (fun K hK => ?_) AllReadyH.nil
          go_simp
          refine hK.out _ _ (by (try dsimp only); (exact ⟨Step.of, trivial⟩)) (fun hHeld => ?_)
          clear hK K
          (try simp only [Act.put, List.setIfInBounds_toArray, List.set_cons_zero, List.set_cons_succ])
          refine wpAnyH_ready (rs := [10]) (by kernel_rfl) (by simp) ?_
          refine AllReadyH.cons (o := ⟨some 45, _, _, _, _, _⟩) rfl (fun K hK => ?_) AllReadyH.nil
          (have HOW := hide (HI.out.rows.out.fut (w' := ((wo.alloc (.cells #[.int .i64 1, .int .i64 x, .bool false, .string ⟨#[]⟩] 36)).alloc (.cells #[.slice (some ⟨wo.heap.size, 0, none⟩) 1 1] 67)).drew)); have HNew := hide (SlAt.one_at (w := wo.alloc (.cells #[.int .i64 1, .int .i64 x, .bool false, .string ⟨#[]⟩] 36)) (b := wo.heap.size + 1) (by simp) 1 [.slice (some ⟨wo.heap.size, 0, none⟩) 1 1] 67); refine step_append_sl rfl (.tmp 36) (.tmp 44) 28 rfl eiRow (base := W7.heap.size) (xs := rs.map RowA.cells) rfl HOW.out (rows_fit _) (ys := [[.slice (some ⟨wo.heap.size, 0, none⟩) 1 1]]) rfl (by simp) HNew.out (slice_fit _ _ _) (by rw [List.length_map, HLR.out]; show (k + 1) * 24 ≤ _; omega) (fut W7 ((wo.alloc (.cells #[.int .i64 1, .int .i64 x, .bool false, .string ⟨#[]⟩] 36)).alloc (.cells #[.slice (some ⟨wo.heap.size, 0, none⟩) 1 1] 67)).drew).size (N := k + 1) (by rw [List.length_map, HLR.out]; rfl) ?_; intro A7 c7 w7 hq1 hq2 hown7 hgr7 hbel7; have hs7 : Below W7.heap.size W7 w7 := (fut W7 ((wo.alloc (.cells #[.int .i64 1, .int .i64 x, .bool false, .string ⟨#[]⟩] 36)).alloc (.cells #[.slice (some ⟨wo.heap.size, 0, none⟩) 1 1] 67)).drew).trans hbel7; have HI7 := hide (HI.out.next HXK.out hown7 hgr7 hs7); have ob7 := (HI.out.op.fut (w' := ((wo.alloc (.cells #[.int .i64 1, .int .i64 x, .bool false, .string ⟨#[]⟩] 36)).alloc (.cells #[.slice (some ⟨wo.heap.size, 0, none⟩) 1 1] 67)).drew)).grown hgr7 (HOW.out.ne_ (HI.out.op.fut (w' := ((wo.alloc (.cells #[.int .i64 1, .int .i64 x, .bool false, .string ⟨#[]⟩] 36)).alloc (.cells #[.slice (some ⟨wo.heap.size, 0, none⟩) 1 1] 67)).drew)) (by decide)); clear o0 o1 o2 o3 o4 o5 o6 o7 o8 o9 o10 o11 o12 o13 o14 o15 lo fo; obtain ⟨o0, o1, o2, o3, o4, o5, o6, o7, o8, o9, o10, o11, o12, o13, o14, o15⟩ := At.zOp ob7.at0; have lo := ob7.lt; have fo := ob7.free; clear hown7 hgr7 hbel7 ob7)
          refine hK.out _ _ (by (try dsimp only); (exact ⟨⟨hs7⟩, trivial⟩)) (fun hHeld => ?_)
          clear hK K
          (try simp only [Act.put, List.setIfInBounds_toArray, List.set_cons_zero, List.set_cons_succ])
          refine wT 11 46 (by assumption) ?_
          refine wpAnyH_ready (rs := [12]) (by kernel_rfl) (by simp) ?_
          refine AllReadyH.cons (o := ⟨none, _, _, _, _, _⟩) rfl (fun K hK => ?_) AllReadyH.nil
          go_simp
          refine hK.out _ _ (by (try dsimp only); (exact ⟨⟨hs7.setCell (p := ⟨W7.heap.size, 3, none⟩) (Nat.le_refl _) _⟩, trivial⟩)) (fun hHeld => ?_)
          clear hK K
          (try simp only [Act.put, List.setIfInBounds_toArray, List.set_cons_zero, List.set_cons_succ])
          refine wpAnyH_done (by kernel_rfl) ?_ _
          obtain ⟨Y, hY⟩ : ∃ y : World, y = w7.setCell ⟨W7.heap.size, 3, none⟩ (.slice A7 (k + 1) c7) := ⟨_, rfl⟩
          rw [← hY] at HI7
          rw [← hY]
          clear hY o0 o1 o2 o3 o4 o5 o6 o7 o8 o9 o10 o11 o12 o13 o14 o15 lo fo
          go_wp2_with fail
          go_roundw
          case rel => exact ⟨k + 1, A7, c7, rs ++ [⟨some ⟨wo.heap.size, 0, none⟩, 1, [kv25 x]⟩], by omega, by omega, by go_num, HI7.out⟩
          case measure => simp [intOf]; omega
        · go_simp
          refine hK.out _ _ (by (try dsimp only); (exact ⟨Step.of, trivial⟩)) (fun hHeld => ?_)
          clear hK K
          (try simp only [Act.put, List.setIfInBounds_toArray, List.set_cons_zero, List.set_cons_succ])
          refine wT 6 41 (by assumption) ?_
          refine wpAnyH_ready (rs := [1, 7]) (by kernel_rfl) (by simp) ?_
          refine AllReadyH.cons (o := ⟨some 36, _, _, _, _, _⟩) rfl (fun K hK => ?_) (AllReadyH.cons (o := ⟨some 42, _, _, _, _, _⟩) rfl (fun K hK => ?_) AllReadyH.nil)
          · go_simp
            refine hK.out _ _ (by (try dsimp only); (exact ⟨Step.of, trivial⟩)) (fun hHeld => ?_)
            clear hK K
            (try simp only [Act.put, List.setIfInBounds_toArray, List.set_cons_zero, List.set_cons_succ])
            refine wpAnyH_ready (rs := [7]) (by kernel_rfl) (by simp) ?_
            refine AllReadyH.cons (o := ⟨some 42, _, _, _, _, _⟩) rfl (fun K hK => ?_) AllReadyH.nil
            go_simp
            refine hK.out _ _ (by (try dsimp only); (exact ⟨Step.of, trivial⟩)) (fun hHeld => ?_)
            clear hK K
            (try simp only [Act.put, List.setIfInBounds_toArray, List.set_cons_zero, List.set_cons_succ])
            refine wT 8 43 (by assumption) ?_
            refine wpAnyH_ready (rs := [9]) (by kernel_rfl) (by simp) ?_
            refine AllReadyH.cons (o := ⟨some 44, _, _, _, _, _⟩) rfl (fun K hK => ?_) AllReadyH.nil
            go_simp
            refine hK.out _ _ (by (try dsimp only); (exact ⟨Step.of, trivial⟩)) (fun hHeld => ?_)
            clear hK K
            (try simp only [Act.put, List.setIfInBounds_toArray, List.set_cons_zero, List.set_cons_succ])
            refine wpAnyH_ready (rs := [10]) (by kernel_rfl) (by simp) ?_
            refine AllReadyH.cons (o := ⟨some 45, _, _, _, _, _⟩) rfl (fun K hK => ?_) AllReadyH.nil
            (have HOW := hide (HI.out.rows.out.fut (w' := ((wo.alloc (.cells #[.int .i64 1, .int .i64 x, .bool false, .string ⟨#[]⟩] 36)).alloc (.cells #[.slice (some ⟨wo.heap.size, 0, none⟩) 1 1] 67)).drew)); have HNew := hide (SlAt.one_at (w := wo.alloc (.cells #[.int .i64 1, .int .i64 x, .bool false, .string ⟨#[]⟩] 36)) (b := wo.heap.size + 1) (by simp) 1 [.slice (some ⟨wo.heap.size, 0, none⟩) 1 1] 67); refine step_append_sl rfl (.tmp 36) (.tmp 44) 28 rfl eiRow (base := W7.heap.size) (xs := rs.map RowA.cells) rfl HOW.out (rows_fit _) (ys := [[.slice (some ⟨wo.heap.size, 0, none⟩) 1 1]]) rfl (by simp) HNew.out (slice_fit _ _ _) (by rw [List.length_map, HLR.out]; show (k + 1) * 24 ≤ _; omega) (fut W7 ((wo.alloc (.cells #[.int .i64 1, .int .i64 x, .bool false, .string ⟨#[]⟩] 36)).alloc (.cells #[.slice (some ⟨wo.heap.size, 0, none⟩) 1 1] 67)).drew).size (N := k + 1) (by rw [List.length_map, HLR.out]; rfl) ?_; intro A7 c7 w7 hq1 hq2 hown7 hgr7 hbel7; have hs7 : Below W7.heap.size W7 w7 := (fut W7 ((wo.alloc (.cells #[.int .i64 1, .int .i64 x, .bool false, .string ⟨#[]⟩] 36)).alloc (.cells #[.slice (some ⟨wo.heap.size, 0, none⟩) 1 1] 67)).drew).trans hbel7; have HI7 := hide (HI.out.next HXK.out hown7 hgr7 hs7); have ob7 := (HI.out.op.fut (w' := ((wo.alloc (.cells #[.int .i64 1, .int .i64 x, .bool false, .string ⟨#[]⟩] 36)).alloc (.cells #[.slice (some ⟨wo.heap.size, 0, none⟩) 1 1] 67)).drew)).grown hgr7 (HOW.out.ne_ (HI.out.op.fut (w' := ((wo.alloc (.cells #[.int .i64 1, .int .i64 x, .bool false, .string ⟨#[]⟩] 36)).alloc (.cells #[.slice (some ⟨wo.heap.size, 0, none⟩) 1 1] 67)).drew)) (by decide)); clear o0 o1 o2 o3 o4 o5 o6 o7 o8 o9 o10 o11 o12 o13 o14 o15 lo fo; obtain ⟨o0, o1, o2, o3, o4, o5, o6, o7, o8, o9, o10, o11, o12, o13, o14, o15⟩ := At.zOp ob7.at0; have lo := ob7.lt; have fo := ob7.free; clear hown7 hgr7 hbel7 ob7)
            refine hK.out _ _ (by (try dsimp only); (exact ⟨⟨hs7⟩, trivial⟩)) (fun hHeld => ?_)
            clear hK K
            (try simp only [Act.put, List.setIfInBounds_toArray, List.set_cons_zero, List.set_cons_succ])
            refine wT 11 46 (by assumption) ?_
            refine wpAnyH_ready (rs := [12]) (by kernel_rfl) (by simp) ?_
            refine AllReadyH.cons (o := ⟨none, _, _, _, _, _⟩) rfl (fun K hK => ?_) AllReadyH.nil
            go_simp
            refine hK.out _ _ (by (try dsimp only); (exact ⟨⟨hs7.setCell (p := ⟨W7.heap.size, 3, none⟩) (Nat.le_refl _) _⟩, trivial⟩)) (fun hHeld => ?_)
            clear hK K
            (try simp only [Act.put, List.setIfInBounds_toArray, List.set_cons_zero, List.set_cons_succ])
            refine wpAnyH_done (by kernel_rfl) ?_ _
            obtain ⟨Y, hY⟩ : ∃ y : World, y = w7.setCell ⟨W7.heap.size, 3, none⟩ (.slice A7 (k + 1) c7) := ⟨_, rfl⟩
            rw [← hY] at HI7
            rw [← hY]
            clear hY o0 o1 o2 o3 o4 o5 o6 o7 o8 o9 o10 o11 o12 o13 o14 o15 lo fo
            go_wp2_with fail
            go_roundw
            case rel => exact ⟨k + 1, A7, c7, rs ++ [⟨some ⟨wo.heap.size, 0, none⟩, 1, [kv25 x]⟩], by omega, by omega, by go_num, HI7.out⟩
            case measure => simp [intOf]; omega
          · go_simp
            refine hK.out _ _ (by (try dsimp only); (exact ⟨Step.of, trivial⟩)) (fun hHeld => ?_)
            clear hK K
            (try simp only [Act.put, List.setIfInBounds_toArray, List.set_cons_zero, List.set_cons_succ])
            refine wT 8 43 (by assumption) ?_
            refine wpAnyH_ready (rs := [1, 9]) (by kernel_rfl) (by simp) ?_
            refine AllReadyH.cons (o := ⟨some 36, _, _, _, _, _⟩) rfl (fun K hK => ?_) (AllReadyH.cons (o := ⟨some 44, _, _, _, _, _⟩) rfl (fun K hK => ?_) AllReadyH.nil)
            · go_simp
              refine hK.out _ _ (by (try dsimp only); (exact ⟨Step.of, trivial⟩)) (fun hHeld => ?_)
              clear hK K
              (try simp only [Act.put, List.setIfInBounds_toArray, List.set_cons_zero, List.set_cons_succ])
              refine wpAnyH_ready (rs := [9]) (by kernel_rfl) (by simp) ?_
              refine AllReadyH.cons (o := ⟨some 44, _, _, _, _, _⟩) rfl (fun K hK => ?_) AllReadyH.nil
              go_simp
              refine hK.out _ _ (by (try dsimp only); (exact ⟨Step.of, trivial⟩)) (fun hHeld => ?_)
              clear hK K
              (try simp only [Act.put, List.setIfInBounds_toArray, List.set_cons_zero, List.set_cons_succ])
              refine wpAnyH_ready (rs := [10]) (by kernel_rfl) (by simp) ?_
              refine AllReadyH.cons (o := ⟨some 45, _, _, _, _, _⟩) rfl (fun K hK => ?_) AllReadyH.nil
              (have HOW := hide (HI.out.rows.out.fut (w' := ((wo.alloc (.cells #[.int .i64 1, .int .i64 x, .bool false, .string ⟨#[]⟩] 36)).alloc (.cells #[.slice (some ⟨wo.heap.size, 0, none⟩) 1 1] 67)).drew)); have HNew := hide (SlAt.one_at (w := wo.alloc (.cells #[.int .i64 1, .int .i64 x, .bool false, .string ⟨#[]⟩] 36)) (b := wo.heap.size + 1) (by simp) 1 [.slice (some ⟨wo.heap.size, 0, none⟩) 1 1] 67); refine step_append_sl rfl (.tmp 36) (.tmp 44) 28 rfl eiRow (base := W7.heap.size) (xs := rs.map RowA.cells) rfl HOW.out (rows_fit _) (ys := [[.slice (some ⟨wo.heap.size, 0, none⟩) 1 1]]) rfl (by simp) HNew.out (slice_fit _ _ _) (by rw [List.length_map, HLR.out]; show (k + 1) * 24 ≤ _; omega) (fut W7 ((wo.alloc (.cells #[.int .i64 1, .int .i64 x, .bool false, .string ⟨#[]⟩] 36)).alloc (.cells #[.slice (some ⟨wo.heap.size, 0, none⟩) 1 1] 67)).drew).size (N := k + 1) (by rw [List.length_map, HLR.out]; rfl) ?_; intro A7 c7 w7 hq1 hq2 hown7 hgr7 hbel7; have hs7 : Below W7.heap.size W7 w7 := (fut W7 ((wo.alloc (.cells #[.int .i64 1, .int .i64 x, .bool false, .string ⟨#[]⟩] 36)).alloc (.cells #[.slice (some ⟨wo.heap.size, 0, none⟩) 1 1] 67)).drew).trans hbel7; have HI7 := hide (HI.out.next HXK.out hown7 hgr7 hs7); have ob7 := (HI.out.op.fut (w' := ((wo.alloc (.cells #[.int .i64 1, .int .i64 x, .bool false, .string ⟨#[]⟩] 36)).alloc (.cells #[.slice (some ⟨wo.heap.size, 0, none⟩) 1 1] 67)).drew)).grown hgr7 (HOW.out.ne_ (HI.out.op.fut (w' := ((wo.alloc (.cells #[.int .i64 1, .int .i64 x, .bool false, .string ⟨#[]⟩] 36)).alloc (.cells #[.slice (some ⟨wo.heap.size, 0, none⟩) 1 1] 67)).drew)) (by decide)); clear o0 o1 o2 o3 o4 o5 o6 o7 o8 o9 o10 o11 o12 o13 o14 o15 lo fo; obtain ⟨o0, o1, o2, o3, o4, o5, o6, o7, o8, o9, o10, o11, o12, o13, o14, o15⟩ := At.zOp ob7.at0; have lo := ob7.lt; have fo := ob7.free; clear hown7 hgr7 hbel7 ob7)
              refine hK.out _ _ (by (try dsimp only); (exact ⟨⟨hs7⟩, trivial⟩)) (fun hHeld => ?_)
              clear hK K
              (try simp only [Act.put, List.setIfInBounds_toArray, List.set_cons_zero, List.set_cons_succ])
              refine wT 11 46 (by assumption) ?_
              refine wpAnyH_ready (rs := [12]) (by kernel_rfl) (by simp) ?_
              refine AllReadyH.cons (o := ⟨none, _, _, _, _, _⟩) rfl (fun K hK => ?_) AllReadyH.nil
              go_simp
              refine hK.out _ _ (by (try dsimp only); (exact ⟨⟨hs7.setCell (p := ⟨W7.heap.size, 3, none⟩) (Nat.le_refl _) _⟩, trivial⟩)) (fun hHeld => ?_)
              clear hK K
              (try simp only [Act.put, List.setIfInBounds_toArray, List.set_cons_zero, List.set_cons_succ])
              refine wpAnyH_done (by kernel_rfl) ?_ _
              obtain ⟨Y, hY⟩ : ∃ y : World, y = w7.setCell ⟨W7.heap.size, 3, none⟩ (.slice A7 (k + 1) c7) := ⟨_, rfl⟩
              rw [← hY] at HI7
              rw [← hY]
              clear hY o0 o1 o2 o3 o4 o5 o6 o7 o8 o9 o10 o11 o12 o13 o14 o15 lo fo
              go_wp2_with fail
              go_roundw
              case rel => exact ⟨k + 1, A7, c7, rs ++ [⟨some ⟨wo.heap.size, 0, none⟩, 1, [kv25 x]⟩], by omega, by omega, by go_num, HI7.out⟩
              case measure => simp [intOf]; omega
            · go_simp
              refine hK.out _ _ (by (try dsimp only); (exact ⟨Step.of, trivial⟩)) (fun hHeld => ?_)
              clear hK K
              (try simp only [Act.put, List.setIfInBounds_toArray, List.set_cons_zero, List.set_cons_succ])
              refine wpAnyH_ready (rs := [1]) (by kernel_rfl) (by simp) ?_
              refine AllReadyH.cons (o := ⟨some 36, _, _, _, _, _⟩) rfl (fun K hK => ?_) AllReadyH.nil
              go_simp
              refine hK.out _ _ (by (try dsimp only); (exact ⟨Step.of, trivial⟩)) (fun hHeld => ?_)
              clear hK K
              (try simp only [Act.put, List.setIfInBounds_toArray, List.set_cons_zero, List.set_cons_succ])
              refine wpAnyH_ready (rs := [10]) (by kernel_rfl) (by simp) ?_
              refine AllReadyH.cons (o := ⟨some 45, _, _, _, _, _⟩) rfl (fun K hK => ?_) AllReadyH.nil
              (have HOW := hide (HI.out.rows.out.fut (w' := ((wo.alloc (.cells #[.int .i64 1, .int .i64 x, .bool false, .string ⟨#[]⟩] 36)).alloc (.cells #[.slice (some ⟨wo.heap.size, 0, none⟩) 1 1] 67)).drew)); have HNew := hide (SlAt.one_at (w := wo.alloc (.cells #[.int .i64 1, .int .i64 x, .bool false, .string ⟨#[]⟩] 36)) (b := wo.heap.size + 1) (by simp) 1 [.slice (some ⟨wo.heap.size, 0, none⟩) 1 1] 67); refine step_append_sl rfl (.tmp 36) (.tmp 44) 28 rfl eiRow (base := W7.heap.size) (xs := rs.map RowA.cells) rfl HOW.out (rows_fit _) (ys := [[.slice (some ⟨wo.heap.size, 0, none⟩) 1 1]]) rfl (by simp) HNew.out (slice_fit _ _ _) (by rw [List.length_map, HLR.out]; show (k + 1) * 24 ≤ _; omega) (fut W7 ((wo.alloc (.cells #[.int .i64 1, .int .i64 x, .bool false, .string ⟨#[]⟩] 36)).alloc (.cells #[.slice (some ⟨wo.heap.size, 0, none⟩) 1 1] 67)).drew).size (N := k + 1) (by rw [List.length_map, HLR.out]; rfl) ?_; intro A7 c7 w7 hq1 hq2 hown7 hgr7 hbel7; have hs7 : Below W7.heap.size W7 w7 := (fut W7 ((wo.alloc (.cells #[.int .i64 1, .int .i64 x, .bool false, .string ⟨#[]⟩] 36)).alloc (.cells #[.slice (some ⟨wo.heap.size, 0, none⟩) 1 1] 67)).drew).trans hbel7; have HI7 := hide (HI.out.next HXK.out hown7 hgr7 hs7); have ob7 := (HI.out.op.fut (w' := ((wo.alloc (.cells #[.int .i64 1, .int .i64 x, .bool false, .string ⟨#[]⟩] 36)).alloc (.cells #[.slice (some ⟨wo.heap.size, 0, none⟩) 1 1] 67)).drew)).grown hgr7 (HOW.out.ne_ (HI.out.op.fut (w' := ((wo.alloc (.cells #[.int .i64 1, .int .i64 x, .bool false, .string ⟨#[]⟩] 36)).alloc (.cells #[.slice (some ⟨wo.heap.size, 0, none⟩) 1 1] 67)).drew)) (by decide)); clear o0 o1 o2 o3 o4 o5 o6 o7 o8 o9 o10 o11 o12 o13 o14 o15 lo fo; obtain ⟨o0, o1, o2, o3, o4, o5, o6, o7, o8, o9, o10, o11, o12, o13, o14, o15⟩ := At.zOp ob7.at0; have lo := ob7.lt; have fo := ob7.free; clear hown7 hgr7 hbel7 ob7)
              refine hK.out _ _ (by (try dsimp only); (exact ⟨⟨hs7⟩, trivial⟩)) (fun hHeld => ?_)
              clear hK K
              (try simp only [Act.put, List.setIfInBounds_toArray, List.set_cons_zero, List.set_cons_succ])
              refine wT 11 46 (by assumption) ?_
              refine wpAnyH_ready (rs := [12]) (by kernel_rfl) (by simp) ?_
              refine AllReadyH.cons (o := ⟨none, _, _, _, _, _⟩) rfl (fun K hK => ?_) AllReadyH.nil
              go_simp
              refine hK.out _ _ (by (try dsimp only); (exact ⟨⟨hs7.setCell (p := ⟨W7.heap.size, 3, none⟩) (Nat.le_refl _) _⟩, trivial⟩)) (fun hHeld => ?_)
              clear hK K
              (try simp only [Act.put, List.setIfInBounds_toArray, List.set_cons_zero, List.set_cons_succ])
              refine wpAnyH_done (by kernel_rfl) ?_ _
              obtain ⟨Y, hY⟩ : ∃ y : World, y = w7.setCell ⟨W7.heap.size, 3, none⟩ (.slice A7 (k + 1) c7) := ⟨_, rfl⟩
              rw [← hY] at HI7
              rw [← hY]
              clear hY o0 o1 o2 o3 o4 o5 o6 o7 o8 o9 o10 o11 o12 o13 o14 o15 lo fo
              go_wp2_with fail
              go_roundw
              case rel => exact ⟨k + 1, A7, c7, rs ++ [⟨some ⟨wo.heap.size, 0, none⟩, 1, [kv25 x]⟩], by omega, by omega, by go_num, HI7.out⟩
              case measure => simp [intOf]; omega
      · obtain rfl : k = 20 := by omega
        have hkl : (20 : Int) < (xs.length : Int) := by omega
        have HK20 : Hid (20 ≤ 20 ∧ (xs.take 20).map (fun x => [kv25 x]) = (xs.take 20).map fun x => [kv25 x]) := ⟨Nat.le_refl _, rfl⟩
        obtain ⟨o0, o1, o2, o3, o4, o5, o6, o7, o8, o9, o10, o11, o12, o13, o14, o15⟩ := At.zOp (HI.out.op.fut (w' := wo)).at0
        have lo := (HI.out.op.fut (w' := wo)).lt
        have fo := (HI.out.op.fut (w' := wo)).free
        obtain ⟨z0, z1, z2, z3, z4, z5⟩ := At.z6 (HT0B.out.fut (w' := wo)).at0
        have lz := (HT0B.out.fut (w' := wo)).lt
        have AP1 : Hid (Calls Tryz.prog 13 #[.agg #[.int .i64 0, .slice A4 2 c4, .int .i64 3, .int .i64 0, .slice none 0 0, .slice none 0 0], .agg #[.int .i64 0, .string ⟨#[]⟩, .slice (some ⟨w4.heap.size + 1, 0, none⟩) 1 1, .slice A' 20 c', .slice none 0 0, .string ⟨#[]⟩, .string ⟨#[]⟩, .int .i64 0, .int .i64 0, .int .i64 0, .bool false, .string ⟨#[]⟩, .slice none 0 0, .int .i64 0, .int .i64 0, .int .i64 0]] wo (ApplyR wo (fil25 xs, 0))) := by
          have hin : OpIn wo ⟨0, ⟨#[]⟩, [⟨#[97]⟩], some ⟨w4.heap.size + 1, 0, none⟩, 1, rs, A', c', [], none, 0, ⟨#[]⟩, ⟨#[]⟩, 0, ⟨0, 0, false, ⟨#[]⟩⟩, [], none, 0, 0, 0, 0⟩ := ⟨SlAt.of_blk25 (HST.out.fut (w' := wo)) rfl (txs_fit [⟨#[97]⟩]).len, (by show 1 ≤ 8796093022207; decide), Nat.le_refl _, by
              have hro := HI.out.rows
              rw [← HLR.out] at hro
              exact hro.rin (by rw [HLR.out]; have := HK20.out.1; omega) (fun vs hvs => by
                rw [HI.out.vs] at hvs
                obtain ⟨x, _, rfl⟩ := List.mem_map.1 hvs
                exact ⟨by show 1 ≤ 3518437208780; decide, fun v hv => by simp [kv25] at hv; subst hv; exact (by decide : (0 : Nat) ≤ 9223372036854775807)⟩), fun r hr v hv => by
              have hm : r.vs ∈ rs.map RowA.vs := List.mem_map.2 ⟨r, hr, rfl⟩
              rw [HI.out.vs] at hm
              obtain ⟨x, hx, he⟩ := List.mem_map.1 hm
              rw [← he] at hv
              simp only [List.mem_cons, List.not_mem_nil, or_false] at hv
              subst hv
              exact ⟨(by show 0 ≤ 9223372036854775000; decide), HRG.out x (List.mem_of_mem_take hx)⟩, PrIn.none_ _, FsIn.none_ _, Nat.zero_le _, FineD.zero, (by show 0 ≤ 9223372036854775807; decide)⟩
          have := apply_add (w0 := W7) (w1 := wo) ⟨sb25, A4, c4, 0, [], none, 0, [], none, 0⟩ ⟨0, ⟨#[]⟩, [⟨#[97]⟩], some ⟨w4.heap.size + 1, 0, none⟩, 1, rs, A', c', [], none, 0, ⟨#[]⟩, ⟨#[]⟩, 0, ⟨0, 0, false, ⟨#[]⟩⟩, [], none, 0, 0, 0, 0⟩ wo HTI0.out hin rfl
          simp only [OpA.op, TbA.tb, List.map_nil] at this
          rw [HI.out.vs, HK20.out.2, fil_apply] at this
          rw [HLR.out] at this
          exact this
        go_upto_region 9 with (go_at_call 13; (with_reducible refine AP1.out.mono ?_); rintro e w6 ⟨t1, rfl, ht1, ho6, hs6⟩; have HT1 := hide ht1; have HO6 := hide ho6; clear ht1 ho6)
        clear z0 z1 z2 z3 z4 z5 lz o0 o1 o2 o3 o4 o5 o6 o7 o8 o9 o10 o11 o12 o13 o14 o15 lo fo
        obtain ⟨X10, hX10⟩ : ∃ x : World, x = w6.alloc (.cells #[.int .i64 t1.s.id, .slice t1.As t1.s.cols.length t1.cs, .int .i64 t1.s.next, .int .i64 t1.sid, .slice t1.Af t1.fs.length t1.cf, .slice t1.Ar t1.rs.length t1.cr] 30) := ⟨_, rfl⟩
        have SX10 : Step w6 X10 := by rw [hX10]; exact Step.of
        have HT1B : Hid (Blk X10 w6.heap.size 30 [.int .i64 t1.s.id, .slice t1.As t1.s.cols.length t1.cs, .int .i64 t1.s.next, .int .i64 t1.sid, .slice t1.Af t1.fs.length t1.cf, .slice t1.Ar t1.rs.length t1.cr]) := by rw [hX10]; exact Blk.new w6 _ 30
        rw [← hX10]
        clear hX10
        have HRX := hide (HRES.out.fut (w' := X10))
        have hwo : w.heap.size ≤ wo.heap.size := (fut w wo).size
        have HF9 := hide ((HO6.out.fut (w' := X10)).set6 HRX.out (.int .i64 t1.s.id) (.slice t1.As t1.s.cols.length t1.cs) (.int .i64 t1.s.next) (.int .i64 t1.sid) (.slice t1.Af t1.fs.length t1.cf) (.slice t1.Ar t1.rs.length t1.cr))
        have HB9 := hide (set6D_below (fut w X10) (Nat.le_refl w.heap.size) (.int .i64 t1.s.id) (.slice t1.As t1.s.cols.length t1.cs) (.int .i64 t1.s.next) (.int .i64 t1.sid) (.slice t1.Af t1.fs.length t1.cf) (.slice t1.Ar t1.rs.length t1.cr))
        unfold set6D at HF9 HB9
        have HB9D := hide HB9.out.drew
        have HF9D := hide (HF9.out.more hwo).drewD
        clear HF9
        obtain ⟨z0, z1, z2, z3, z4, z5⟩ := At.z6 HRX.out.at0
        have lz := HRX.out.lt
        have fz := HRX.out.free
        obtain ⟨u0, u1, u2, u3, u4, u5⟩ := At.z6 HT1B.out.at0
        have lu := HT1B.out.lt
        refine wp_region_held_drew (S := (fun w' => Step w w' ∧ True)) (by kernel_rfl) (by (try dsimp only); (exact ⟨Step.of, trivial⟩)) (fun hHeld => ?_)
        refine wT 1 54 (by assumption) ?_
        refine wpAnyH_ready (rs := [0, 2]) (by kernel_rfl) (by simp) ?_
        refine AllReadyH.cons (o := ⟨some 53, _, _, _, _, _⟩) rfl (fun K hK => ?_) (AllReadyH.cons (o := ⟨some 55, _, _, _, _, _⟩) rfl (fun K hK => ?_) AllReadyH.nil)
        · go_simp
          refine hK.out _ _ (by (try dsimp only); (exact ⟨Step.of, trivial⟩)) (fun hHeld => ?_)
          clear hK K
          (try simp only [Act.put, List.setIfInBounds_toArray, List.set_cons_zero, List.set_cons_succ])
          refine wpAnyH_ready (rs := [2]) (by kernel_rfl) (by simp) ?_
          refine AllReadyH.cons (o := ⟨some 55, _, _, _, _, _⟩) rfl (fun K hK => ?_) AllReadyH.nil
          obtain ⟨hS1, hS2⟩ := hHeld
          go_simp
          (go_at_call 29; (with_reducible refine (num25_any _ _).mono ?_); rintro e w' ⟨rfl, h9⟩; obtain rfl := h9.symm; clear h9)
          refine hK.out _ _ (by (try dsimp only); (exact ⟨Step.of, trivial⟩)) (fun hHeld => ?_)
          clear hK K
          (try simp only [Act.put, List.setIfInBounds_toArray, List.set_cons_zero, List.set_cons_succ])
          refine wT 3 56 (by assumption) ?_
          refine wT 4 57 (by assumption) ?_
          refine wT 5 58 (by assumption) ?_
          refine wT 6 59 (by assumption) ?_
          refine wT 7 60 (by assumption) ?_
          refine wpAnyH_ready (rs := [8]) (by kernel_rfl) (by simp) ?_
          refine AllReadyH.cons (o := ⟨none, _, _, _, _, _⟩) rfl (fun K hK => ?_) AllReadyH.nil
          go_simp
          refine hK.out _ _ (by (try dsimp only); (with_reducible first | exact ⟨⟨HB9.out⟩, trivial⟩ | exact ⟨⟨HB9D.out⟩, trivial⟩)) (fun hHeld => ?_)
          clear hK K
          (try simp only [Act.put, List.setIfInBounds_toArray, List.set_cons_zero, List.set_cons_succ])
          refine wT 9 3 (by assumption) ?_
          refine wpAnyH_done (by kernel_rfl) ?_ _
          go_wp2_with fail
          refine bodyPost_ret (v := .tuple #[.agg #[.int .i64 t1.s.id, .slice t1.As t1.s.cols.length t1.cs, .int .i64 t1.s.next, .int .i64 t1.sid, .slice t1.Af t1.fs.length t1.cf, .slice t1.Ar t1.rs.length t1.cr], .bool true]) (by simp [results, Tryz.results35, go_sem, z0, z1, z2, z3, z4, z5]) rfl ?_
          with_reducible exact ⟨t1, rfl, HT1.out, HF9D.out, ⟨HB9D.out⟩⟩
        · obtain ⟨hS1, hS2⟩ := hHeld
          go_simp
          (go_at_call 29; (with_reducible refine (num25_any _ _).mono ?_); rintro e w' ⟨rfl, h9⟩; obtain rfl := h9.symm; clear h9)
          refine hK.out _ _ (by (try dsimp only); (exact ⟨Step.of, trivial⟩)) (fun hHeld => ?_)
          clear hK K
          (try simp only [Act.put, List.setIfInBounds_toArray, List.set_cons_zero, List.set_cons_succ])
          refine wT 3 56 (by assumption) ?_
          refine wT 4 57 (by assumption) ?_
          refine wT 5 58 (by assumption) ?_
          refine wT 6 59 (by assumption) ?_
          refine wT 7 60 (by assumption) ?_
          refine wpAnyH_ready (rs := [0]) (by kernel_rfl) (by simp) ?_
          refine AllReadyH.cons (o := ⟨some 53, _, _, _, _, _⟩) rfl (fun K hK => ?_) AllReadyH.nil
          go_simp
          refine hK.out _ _ (by (try dsimp only); (exact ⟨Step.of, trivial⟩)) (fun hHeld => ?_)
          clear hK K
          (try simp only [Act.put, List.setIfInBounds_toArray, List.set_cons_zero, List.set_cons_succ])
          refine wpAnyH_ready (rs := [8]) (by kernel_rfl) (by simp) ?_
          refine AllReadyH.cons (o := ⟨none, _, _, _, _, _⟩) rfl (fun K hK => ?_) AllReadyH.nil
          go_simp
          refine hK.out _ _ (by (try dsimp only); (with_reducible first | exact ⟨⟨HB9.out⟩, trivial⟩ | exact ⟨⟨HB9D.out⟩, trivial⟩)) (fun hHeld => ?_)
          clear hK K
          (try simp only [Act.put, List.setIfInBounds_toArray, List.set_cons_zero, List.set_cons_succ])
          refine wT 9 3 (by assumption) ?_
          refine wpAnyH_done (by kernel_rfl) ?_ _
          go_wp2_with fail
          refine bodyPost_ret (v := .tuple #[.agg #[.int .i64 t1.s.id, .slice t1.As t1.s.cols.length t1.cs, .int .i64 t1.s.next, .int .i64 t1.sid, .slice t1.Af t1.fs.length t1.cf, .slice t1.Ar t1.rs.length t1.cr], .bool true]) (by simp [results, Tryz.results35, go_sem, z0, z1, z2, z3, z4, z5]) rfl ?_
          with_reducible exact ⟨t1, rfl, HT1.out, HF9D.out, ⟨HB9D.out⟩⟩
    · obtain rfl : k = xs.length := by omega
      have HK20 : Hid (xs.length ≤ 20 ∧ (xs.take xs.length).map (fun x => [kv25 x]) = (xs.take 20).map fun x => [kv25 x]) := ⟨hk20, by rw [List.take_length, List.take_of_length_le hk20]⟩
      obtain ⟨o0, o1, o2, o3, o4, o5, o6, o7, o8, o9, o10, o11, o12, o13, o14, o15⟩ := At.zOp (HI.out.op.fut (w' := wo)).at0
      have lo := (HI.out.op.fut (w' := wo)).lt
      have fo := (HI.out.op.fut (w' := wo)).free
      obtain ⟨z0, z1, z2, z3, z4, z5⟩ := At.z6 (HT0B.out.fut (w' := wo)).at0
      have lz := (HT0B.out.fut (w' := wo)).lt
      have AP1 : Hid (Calls Tryz.prog 13 #[.agg #[.int .i64 0, .slice A4 2 c4, .int .i64 3, .int .i64 0, .slice none 0 0, .slice none 0 0], .agg #[.int .i64 0, .string ⟨#[]⟩, .slice (some ⟨w4.heap.size + 1, 0, none⟩) 1 1, .slice A' xs.length c', .slice none 0 0, .string ⟨#[]⟩, .string ⟨#[]⟩, .int .i64 0, .int .i64 0, .int .i64 0, .bool false, .string ⟨#[]⟩, .slice none 0 0, .int .i64 0, .int .i64 0, .int .i64 0]] wo (ApplyR wo (fil25 xs, 0))) := by
        have hin : OpIn wo ⟨0, ⟨#[]⟩, [⟨#[97]⟩], some ⟨w4.heap.size + 1, 0, none⟩, 1, rs, A', c', [], none, 0, ⟨#[]⟩, ⟨#[]⟩, 0, ⟨0, 0, false, ⟨#[]⟩⟩, [], none, 0, 0, 0, 0⟩ := ⟨SlAt.of_blk25 (HST.out.fut (w' := wo)) rfl (txs_fit [⟨#[97]⟩]).len, (by show 1 ≤ 8796093022207; decide), Nat.le_refl _, by
            have hro := HI.out.rows
            rw [← HLR.out] at hro
            exact hro.rin (by rw [HLR.out]; have := HK20.out.1; omega) (fun vs hvs => by
              rw [HI.out.vs] at hvs
              obtain ⟨x, _, rfl⟩ := List.mem_map.1 hvs
              exact ⟨by show 1 ≤ 3518437208780; decide, fun v hv => by simp [kv25] at hv; subst hv; exact (by decide : (0 : Nat) ≤ 9223372036854775807)⟩), fun r hr v hv => by
            have hm : r.vs ∈ rs.map RowA.vs := List.mem_map.2 ⟨r, hr, rfl⟩
            rw [HI.out.vs] at hm
            obtain ⟨x, hx, he⟩ := List.mem_map.1 hm
            rw [← he] at hv
            simp only [List.mem_cons, List.not_mem_nil, or_false] at hv
            subst hv
            exact ⟨(by show 0 ≤ 9223372036854775000; decide), HRG.out x (List.mem_of_mem_take hx)⟩, PrIn.none_ _, FsIn.none_ _, Nat.zero_le _, FineD.zero, (by show 0 ≤ 9223372036854775807; decide)⟩
        have := apply_add (w0 := W7) (w1 := wo) ⟨sb25, A4, c4, 0, [], none, 0, [], none, 0⟩ ⟨0, ⟨#[]⟩, [⟨#[97]⟩], some ⟨w4.heap.size + 1, 0, none⟩, 1, rs, A', c', [], none, 0, ⟨#[]⟩, ⟨#[]⟩, 0, ⟨0, 0, false, ⟨#[]⟩⟩, [], none, 0, 0, 0, 0⟩ wo HTI0.out hin rfl
        simp only [OpA.op, TbA.tb, List.map_nil] at this
        rw [HI.out.vs, HK20.out.2, fil_apply] at this
        rw [HLR.out] at this
        exact this
      go_upto_region 9 with (go_at_call 13; (with_reducible refine AP1.out.mono ?_); rintro e w6 ⟨t1, rfl, ht1, ho6, hs6⟩; have HT1 := hide ht1; have HO6 := hide ho6; clear ht1 ho6)
      clear z0 z1 z2 z3 z4 z5 lz o0 o1 o2 o3 o4 o5 o6 o7 o8 o9 o10 o11 o12 o13 o14 o15 lo fo
      obtain ⟨X10, hX10⟩ : ∃ x : World, x = w6.alloc (.cells #[.int .i64 t1.s.id, .slice t1.As t1.s.cols.length t1.cs, .int .i64 t1.s.next, .int .i64 t1.sid, .slice t1.Af t1.fs.length t1.cf, .slice t1.Ar t1.rs.length t1.cr] 30) := ⟨_, rfl⟩
      have SX10 : Step w6 X10 := by rw [hX10]; exact Step.of
      have HT1B : Hid (Blk X10 w6.heap.size 30 [.int .i64 t1.s.id, .slice t1.As t1.s.cols.length t1.cs, .int .i64 t1.s.next, .int .i64 t1.sid, .slice t1.Af t1.fs.length t1.cf, .slice t1.Ar t1.rs.length t1.cr]) := by rw [hX10]; exact Blk.new w6 _ 30
      rw [← hX10]
      clear hX10
      have HRX := hide (HRES.out.fut (w' := X10))
      have hwo : w.heap.size ≤ wo.heap.size := (fut w wo).size
      have HF9 := hide ((HO6.out.fut (w' := X10)).set6 HRX.out (.int .i64 t1.s.id) (.slice t1.As t1.s.cols.length t1.cs) (.int .i64 t1.s.next) (.int .i64 t1.sid) (.slice t1.Af t1.fs.length t1.cf) (.slice t1.Ar t1.rs.length t1.cr))
      have HB9 := hide (set6D_below (fut w X10) (Nat.le_refl w.heap.size) (.int .i64 t1.s.id) (.slice t1.As t1.s.cols.length t1.cs) (.int .i64 t1.s.next) (.int .i64 t1.sid) (.slice t1.Af t1.fs.length t1.cf) (.slice t1.Ar t1.rs.length t1.cr))
      unfold set6D at HF9 HB9
      have HB9D := hide HB9.out.drew
      have HF9D := hide (HF9.out.more hwo).drewD
      clear HF9
      obtain ⟨z0, z1, z2, z3, z4, z5⟩ := At.z6 HRX.out.at0
      have lz := HRX.out.lt
      have fz := HRX.out.free
      obtain ⟨u0, u1, u2, u3, u4, u5⟩ := At.z6 HT1B.out.at0
      have lu := HT1B.out.lt
      refine wp_region_held_drew (S := (fun w' => Step w w' ∧ True)) (by kernel_rfl) (by (try dsimp only); (exact ⟨Step.of, trivial⟩)) (fun hHeld => ?_)
      refine wT 1 54 (by assumption) ?_
      refine wpAnyH_ready (rs := [0, 2]) (by kernel_rfl) (by simp) ?_
      refine AllReadyH.cons (o := ⟨some 53, _, _, _, _, _⟩) rfl (fun K hK => ?_) (AllReadyH.cons (o := ⟨some 55, _, _, _, _, _⟩) rfl (fun K hK => ?_) AllReadyH.nil)
      · go_simp
        refine hK.out _ _ (by (try dsimp only); (exact ⟨Step.of, trivial⟩)) (fun hHeld => ?_)
        clear hK K
        (try simp only [Act.put, List.setIfInBounds_toArray, List.set_cons_zero, List.set_cons_succ])
        refine wpAnyH_ready (rs := [2]) (by kernel_rfl) (by simp) ?_
        refine AllReadyH.cons (o := ⟨some 55, _, _, _, _, _⟩) rfl (fun K hK => ?_) AllReadyH.nil
        obtain ⟨hS1, hS2⟩ := hHeld
        go_simp
        (go_at_call 29; (with_reducible refine (num25_any _ _).mono ?_); rintro e w' ⟨rfl, h9⟩; obtain rfl := h9.symm; clear h9)
        refine hK.out _ _ (by (try dsimp only); (exact ⟨Step.of, trivial⟩)) (fun hHeld => ?_)
        clear hK K
        (try simp only [Act.put, List.setIfInBounds_toArray, List.set_cons_zero, List.set_cons_succ])
        refine wT 3 56 (by assumption) ?_
        refine wT 4 57 (by assumption) ?_
        refine wT 5 58 (by assumption) ?_
        refine wT 6 59 (by assumption) ?_
        refine wT 7 60 (by assumption) ?_
        refine wpAnyH_ready (rs := [8]) (by kernel_rfl) (by simp) ?_
        refine AllReadyH.cons (o := ⟨none, _, _, _, _, _⟩) rfl (fun K hK => ?_) AllReadyH.nil
        go_simp
        refine hK.out _ _ (by (try dsimp only); (with_reducible first | exact ⟨⟨HB9.out⟩, trivial⟩ | exact ⟨⟨HB9D.out⟩, trivial⟩)) (fun hHeld => ?_)
        clear hK K
        (try simp only [Act.put, List.setIfInBounds_toArray, List.set_cons_zero, List.set_cons_succ])
        refine wT 9 3 (by assumption) ?_
        refine wpAnyH_done (by kernel_rfl) ?_ _
        go_wp2_with fail
        refine bodyPost_ret (v := .tuple #[.agg #[.int .i64 t1.s.id, .slice t1.As t1.s.cols.length t1.cs, .int .i64 t1.s.next, .int .i64 t1.sid, .slice t1.Af t1.fs.length t1.cf, .slice t1.Ar t1.rs.length t1.cr], .bool true]) (by simp [results, Tryz.results35, go_sem, z0, z1, z2, z3, z4, z5]) rfl ?_
        with_reducible exact ⟨t1, rfl, HT1.out, HF9D.out, ⟨HB9D.out⟩⟩
      · obtain ⟨hS1, hS2⟩ := hHeld
        go_simp
        (go_at_call 29; (with_reducible refine (num25_any _ _).mono ?_); rintro e w' ⟨rfl, h9⟩; obtain rfl := h9.symm; clear h9)
        refine hK.out _ _ (by (try dsimp only); (exact ⟨Step.of, trivial⟩)) (fun hHeld => ?_)
        clear hK K
        (try simp only [Act.put, List.setIfInBounds_toArray, List.set_cons_zero, List.set_cons_succ])
        refine wT 3 56 (by assumption) ?_
        refine wT 4 57 (by assumption) ?_
        refine wT 5 58 (by assumption) ?_
        refine wT 6 59 (by assumption) ?_
        refine wT 7 60 (by assumption) ?_
        refine wpAnyH_ready (rs := [0]) (by kernel_rfl) (by simp) ?_
        refine AllReadyH.cons (o := ⟨some 53, _, _, _, _, _⟩) rfl (fun K hK => ?_) AllReadyH.nil
        go_simp
        refine hK.out _ _ (by (try dsimp only); (exact ⟨Step.of, trivial⟩)) (fun hHeld => ?_)
        clear hK K
        (try simp only [Act.put, List.setIfInBounds_toArray, List.set_cons_zero, List.set_cons_succ])
        refine wpAnyH_ready (rs := [8]) (by kernel_rfl) (by simp) ?_
        refine AllReadyH.cons (o := ⟨none, _, _, _, _, _⟩) rfl (fun K hK => ?_) AllReadyH.nil
        go_simp
        refine hK.out _ _ (by (try dsimp only); (with_reducible first | exact ⟨⟨HB9.out⟩, trivial⟩ | exact ⟨⟨HB9D.out⟩, trivial⟩)) (fun hHeld => ?_)
        clear hK K
        (try simp only [Act.put, List.setIfInBounds_toArray, List.set_cons_zero, List.set_cons_succ])
        refine wT 9 3 (by assumption) ?_
        refine wpAnyH_done (by kernel_rfl) ?_ _
        go_wp2_with fail
        refine bodyPost_ret (v := .tuple #[.agg #[.int .i64 t1.s.id, .slice t1.As t1.s.cols.length t1.cs, .int .i64 t1.s.next, .int .i64 t1.sid, .slice t1.Af t1.fs.length t1.cf, .slice t1.Ar t1.rs.length t1.cr], .bool true]) (by simp [results, Tryz.results35, go_sem, z0, z1, z2, z3, z4, z5]) rfl ?_
        with_reducible exact ⟨t1, rfl, HT1.out, HF9D.out, ⟨HB9D.out⟩⟩
end Go.Proofs.YtnphokhehacfnaaGreatDoor

namespace Go.Proofs.YtnphokhehacfnaaGreatDoor
open Go.RowKit

/-- A node of a predicate that stands behind k others. -/
def shN (k : Nat) (n : Nod) : Nod := { n with l := IntKind.i64.wrap (n.l + k), r := IntKind.i64.wrap (n.r + k) }
/-- Both predicates, one behind the other, and a node that asks for both. -/
def bothN (p q : List Nod) : List Nod := p ++ q.map (shN p.length) ++ [andN ((p.length : Int) - 1) ((p.length : Int) + q.length - 1)]
/-- What stands in both lists, i of the first looked at. -/
def wantTo (a b : List Int) : Nat → List Int
  | 0 => []
  | i + 1 => wantTo a b i ++ b.filter (· == a.getD i 0)
theorem yes_mem {ns : List Nod} {s : Sch} {vss : List (List Val)} {x : Int} : ∀ {k : Nat}, x ∈ yesTo ns s vss k ↔ ∃ i : Nat, i < k ∧ x = (i : Int) ∧ (truthR ns s (vss.getD i [])).1 = 1
  | 0 => by simp [yesTo]
  | k + 1 => by
    rw [yesTo]
    split
    · rename_i h
      rw [List.mem_append, yes_mem]
      constructor
      · rintro (⟨i, h1, h2, h3⟩ | h1)
        · exact ⟨i, by omega, h2, h3⟩
        · simp at h1; exact ⟨k, by omega, h1, h⟩
      · rintro ⟨i, h1, h2, h3⟩
        by_cases e : i = k
        · subst e; exact .inr (by simp [h2])
        · exact .inl ⟨i, by omega, h2, h3⟩
    · rename_i h
      rw [yes_mem]
      constructor
      · rintro ⟨i, h1, h2, h3⟩; exact ⟨i, by omega, h2, h3⟩
      · rintro ⟨i, h1, h2, h3⟩
        by_cases e : i = k
        · subst e; exact absurd h3 h
        · exact ⟨i, by omega, h2, h3⟩
end Go.Proofs.YtnphokhehacfnaaGreatDoor
namespace Go.Proofs.YtnphokhehacfnaaGreatDoor
open Go.RowKit

/-- How many places are met ahead of i, and the others. -/
def stO (at_ : List Int) : Nat → Nat × List Int
  | 0 => (0, [])
  | i + 1 => if at_[(stO at_ i).1]? = some (i : Int) then ((stO at_ i).1 + 1, (stO at_ i).2) else ((stO at_ i).1, (stO at_ i).2 ++ [(i : Int)])
def outO (many : Int) (at_ : List Int) : List Int × Bool :=
  if many < 0 ∨ 4096 < many then ([], false) else if (stO at_ many.toNat).1 = at_.length then ((stO at_ many.toNat).2, true) else ([], false)
end Go.Proofs.YtnphokhehacfnaaGreatDoor
namespace Go.Proofs.YtnphokhehacfnaaGreatDoor
open Go.RowKit

end Go.Proofs.YtnphokhehacfnaaGreatDoor
namespace Go.Proofs.YtnphokhehacfnaaGreatDoor
open Go.RowKit

/-- The places ahead of k whose truth is not yes. -/
def noTo (ns : List Nod) (s : Sch) (vss : List (List Val)) : Nat → List Int
  | 0 => []
  | k + 1 => if (truthR ns s (vss.getD k [])).1 = 1 then noTo ns s vss k else noTo ns s vss k ++ [(k : Int)]
theorem take_ok {n : Nat} {l : List Int} (h : ∀ x ∈ l, 0 ≤ x ∧ x < (n : Int)) : takeOk n l l.length = true := by
  unfold takeOk
  rw [List.take_length, List.all_eq_true]
  intro x hx
  have := h x hx
  simp
  omega
end Go.Proofs.YtnphokhehacfnaaGreatDoor

namespace Go.Proofs.YtnphokhehacfnaaGreatDoor
open Go.RowKit

def yesV (ns : List Nod) (s : Sch) (vs : List Val) : Bool := (truthR ns s vs).1 == 1
theorem getD_at {vss : List (List Val)} {k : Nat} (h : k < vss.length) : vss[k]? = some (vss.getD k []) := by
  rw [List.getD_eq_getElem?_getD, List.getElem?_eq_getElem h]
  rfl
theorem yes_filter (ns : List Nod) (s : Sch) (vss : List (List Val)) : ∀ k, k ≤ vss.length → (yesTo ns s vss k).map (fun x => vss.getD x.toNat []) = (vss.take k).filter (yesV ns s)
  | 0, _ => rfl
  | k + 1, h => by
    rw [yesTo, List.take_add_one, getD_at (by omega), Option.toList_some, List.filter_append]
    have ih := yes_filter ns s vss k (by omega)
    by_cases hy : (truthR ns s (vss.getD k [])).1 = 1
    · rw [if_pos hy, List.map_append, ih, List.filter_cons, if_pos (by rw [yesV, hy]; rfl)]
      simp
    · rw [if_neg hy, ih, List.filter_cons, if_neg (by rw [yesV, beq_iff_eq]; exact hy)]
      simp
theorem yes_bds (ns : List Nod) (s : Sch) (vss : List (List Val)) (k : Nat) : ∀ x ∈ yesTo ns s vss k, 0 ≤ x ∧ x < (k : Int) := by
  intro x hx
  obtain ⟨i, hi, rfl, _⟩ := yes_mem.1 hx
  omega
theorem take_of {vss : List (List Val)} {l : List Int} (h : ∀ x ∈ l, 0 ≤ x ∧ x < (vss.length : Int)) : (takeR vss l).1 = (l.map fun x => vss.getD x.toNat []).map (List.map clean) := by
  rw [takeR, if_pos (take_ok h)]
  simp [takeTo]
/-- A table of numbers. -/
def row2 (x : Int) : List Val := [kv25 x, Val.zero]
def tab2 (ys : List Int) : Tb := ⟨sb25, 0, [], ys.map row2⟩
theorem row2_may (x : Int) : rowW sb25.cols (row2 x) = true := by
  unfold rowW
  rw [Bool.and_eq_true]
  refine ⟨rfl, wholeUpto_iff.2 fun i hi c v hc hv => ?_⟩
  match i with
  | 0 => cases hc; cases hv; exact kv_whole x
  | 1 => cases hc; cases hv; exact zero_whole3
  | n + 2 => exact absurd hi (by show ¬ n + 2 < 2; omega)
theorem tab2_may {ys : List Int} (h : ys.length ≤ 20) : tabB (tab2 ys) = true := by
  rw [tabB_iff]
  refine ⟨fil_1, fil_3, by simp [tab2]; omega, ?_⟩
  rw [List.all_eq_true]
  intro vs hvs
  obtain ⟨x, _, rfl⟩ := List.mem_map.1 hvs
  exact row2_may x
def yesN (ns : List Nod) (x : Int) : Bool := yesV ns sb25 (row2 x)
/-- A count of the numbers that a predicate takes. -/
def opCount (ns : List Nod) : Opp := ⟨9, [], [], ns, ⟨#[97]⟩, ⟨#[]⟩, 0, ⟨0, 0, false, ⟨#[]⟩⟩, [], 1⟩
def opDel (ns : List Nod) : Opp := ⟨1, [], [], ns, ⟨#[]⟩, ⟨#[]⟩, 0, ⟨0, 0, false, ⟨#[]⟩⟩, [], 0⟩
theorem none_pred : predB [] = true := by kernel_rfl
def cmpN (k v : Int) : Nod := ⟨1, ⟨#[97]⟩, k, kv25 v, 0, 0⟩
end Go.Proofs.YtnphokhehacfnaaGreatDoor

