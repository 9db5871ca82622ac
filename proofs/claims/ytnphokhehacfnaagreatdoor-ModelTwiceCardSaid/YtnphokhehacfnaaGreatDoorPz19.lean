/-
  Texts put together: Dq.
-/
import Derived.Test.YtnphokhehacfnaaGreatDoorPz04
import Derived.Test.YtnphokhehacfnaaGreatDoorPz11
import Derived.Test.YtnphokhehacfnaaGreatDoorPz15
import Derived.Test.YtnphokhehacfnaaGreatDoorPz18
namespace Go.Proofs.YtnphokhehacfnaaGreatDoor
open Go.RowKit

theorem num25_any (e : Int) (w : World) : Calls Tryz.prog 29 #[.int .i64 e] w fun r w' => r = .returned (.int .i64 e) ∧ w' = w := by
  go_enter Tryz.func29, Tryz.ntmps29
  go_wp2_with fail
  go_ret
  exact ⟨rfl, rfl⟩
def kv25 (k : Int) : Val := ⟨1, k, false, ⟨#[]⟩⟩
def sa25 : Sch := ⟨0, [⟨1, ⟨#[97]⟩, 1⟩], 2⟩
def ta25 : Tb := ⟨sa25, 0, [], []⟩
def tb25 : Tb := ⟨sa25, 0, [], [[kv25 5]]⟩
theorem PrIn.none_ (w : World) : PrIn w [] none 0 := ⟨Nat.le_refl _, by decide, by decide, SlAt.nil_, fun n h => by simp at h⟩
theorem FsIn.none_ (w : World) : FsIn w [] none 0 := ⟨Nat.le_refl _, by decide, by decide, SlAt.nil_⟩
theorem RowsIn.none_ (w : World) : RowsIn w [] none 0 := ⟨Nat.le_refl _, by decide, by decide, SlAt.nil_, fun r h => by simp at h⟩
/-- An operation with little in it. -/
def opD (kind : Int) (cols : List ByteArray) (Ac : Option Addr) (rows : List RowA) (Ar : Option Addr) (ns : List Nod) (An : Option Addr) (col name : ByteArray) (ck : Int) (v : Val) (fs : List Fld) (Af : Option Addr) (agg : Int) : OpA :=
  ⟨kind, ⟨#[]⟩, cols, Ac, cols.length, rows, Ar, rows.length, ns, An, ns.length, col, name, ck, v, fs, Af, fs.length, 0, 0, agg⟩
theorem FineD.zero : FineD ⟨0, 0, false, ⟨#[]⟩⟩ := ⟨by decide, by decide, by decide⟩
theorem op_little (w : World) (kind : Int) (col name : ByteArray) (ck agg : Int) (hn : name.size ≤ 9223372036854775807) : OpIn w (opD kind [] none [] none [] none col name ck ⟨0, 0, false, ⟨#[]⟩⟩ [] none agg) :=
  ⟨SlAt.nil_, Nat.zero_le _, Nat.le_refl _, RowsIn.none_ w, fun r h => by simp [opD] at h, PrIn.none_ w, FsIn.none_ w, Nat.zero_le _, FineD.zero, hn⟩
theorem SlAt.of_blk25 {w : World} {g size : Nat} {t : TypeId} {l : List (List Value)} {cs : List Value} (h : Blk w g t cs) (he : cs = l.flatten) (hf : ∀ x ∈ l, x.length = size) : SlAt w w.heap.size size (some ⟨g, 0, none⟩) l := by
  subst he
  exact SlAt.of_at h.at0 h.lt hf
/-- Rows of one number each. -/
theorem row_one25 {w : World} {a g : Nat} {x : Int} (ha : Blk w a 36 [.int .i64 1, .int .i64 x, .bool false, .string ⟨#[]⟩]) (hr : Blk w g 67 [.slice (some ⟨a, 0, none⟩) 1 1]) : RowsIn w [⟨some ⟨a, 0, none⟩, 1, [kv25 x]⟩] (some ⟨g, 0, none⟩) 1 := by
  refine ⟨Nat.le_refl _, (by decide : 1 ≤ 5864062014800), by decide, SlAt.of_blk25 hr rfl (rows_fit _).len, fun r h => ?_⟩
  simp only [List.mem_cons, List.not_mem_nil, or_false] at h
  subst h
  exact ⟨Nat.le_refl _, (by decide : 1 ≤ 3518437208780), (by decide : 1 ≤ 9223372036854775807), SlAt.of_blk25 ha rfl (vals_fit _).len, fun v hv => by simp [kv25] at hv; subst hv; exact (by decide : (0 : Nat) ≤ 9223372036854775807)⟩
/-- A table's sizes are small where it may be. -/
theorem whole_small {k : Int} {v : Val} (h : wholeB k v = true) : v.s.size ≤ 64 ∧ (v.kind = 0 ∨ v.kind = 1 ∨ v.kind = 2 ∨ v.kind = 3) := by
  have hc := whole_clean h
  unfold wholeB at h
  rw [Bool.and_eq_true] at h
  have hk : v.kind = kindV v := by rw [← clean_kind, hc]
  unfold kindV at hk
  have h2 := h.2
  unfold fitsB at h2
  rw [hc] at h2
  rw [Bool.or_eq_true, Bool.and_eq_true, Bool.and_eq_true, decide_eq_true_iff, beq_iff_eq] at h2
  refine ⟨?_, by split at hk <;> omega⟩
  rcases h2 with h2 | h2
  · rw [← hc]
    unfold clean
    unfold kindV at h2
    split at h2
    · omega
    · rename_i hn
      rw [if_neg (by omega), if_neg (by omega), if_neg (by omega)]
      exact (by decide : (0 : Nat) ≤ 64)
  · exact h2.1.2
theorem names_small {s : Sch} (h : mayB s = true) : ∀ c ∈ s.cols, c.name.size ≤ 16 := by
  intro c hc
  obtain ⟨i, hi, rfl⟩ := List.getElem_of_mem hc
  have hok : okUpto s.next s.cols s.cols.length = true := by
    unfold mayB at h
    rw [Bool.and_eq_true] at h
    exact h.2
  have hcol : colOk s.next s.cols[i] = true := by
    cases e : colOk s.next s.cols[i] with
    | true => rfl
    | false =>
      have := okUpto_bad hi (okAt_of (List.getElem?_eq_getElem hi) e)
      rw [hok] at this
      cases this
  have hn := (colOk_inv hcol).2.2.1
  unfold nameB at hn
  rw [Bool.and_eq_true, Bool.and_eq_true, decide_eq_true_iff, decide_eq_true_iff] at hn
  exact hn.1.2
theorem TbFine.of_may {t : TbA} (h : tabB t.tb = true) : TbFine t := by
  obtain ⟨hm, hs, hl, hr⟩ := tabB_iff.1 h
  have hc := (addR_inv hm).2.2.2.2
  have hfl : t.fs.length ≤ 4 := by
    unfold specB at hs
    simp only [Bool.and_eq_true, decide_eq_true_iff] at hs
    exact hs.2.2.2.1
  refine ⟨by have : t.s.cols.length ≤ 12 := hc; omega, fun c hcm => ?_, by omega, by have : (t.rs.map RowA.vs).length ≤ 4096 := hl; rw [List.length_map] at this; omega, fun vs hvs => ?_⟩
  · have := names_small hm c hcm
    omega
  · have hw := List.all_eq_true.1 hr vs hvs
    unfold rowW at hw
    rw [Bool.and_eq_true, beq_iff_eq] at hw
    refine ⟨by have : t.s.cols.length ≤ 12 := hc; have h2 : vs.length = t.s.cols.length := hw.1; omega, fun v hv => ?_⟩
    obtain ⟨i, hi, rfl⟩ := List.getElem_of_mem hv
    have := wholeUpto_iff.1 hw.2 i (by omega) _ _ (List.getElem?_eq_getElem (by omega)) (List.getElem?_eq_getElem hi)
    have := (whole_small this).1
    omega
theorem tb_in {w : World} {base : Nat} {t : TbA} (h : TbOwnR w base t) (hm : tabB t.tb = true) : TbIn w t := h.tin (TbFine.of_may hm)
theorem aw25_0 : rnewR [⟨#[97]⟩] [1] = (sa25, 0) := by kernel_rfl
theorem aw25_1 : mayB sa25 = true := by kernel_rfl
theorem aw25_2 : applyP ta25 ⟨0, [⟨#[97]⟩], [[kv25 5]], [], ⟨#[]⟩, ⟨#[]⟩, 0, ⟨0, 0, false, ⟨#[]⟩⟩, [], 0⟩ = (tb25, 0) := by kernel_rfl
theorem aw25_3 : tabB tb25 = true := by kernel_rfl
theorem aw25_4 : readT tb25 ⟨9, [], [], [], ⟨#[97]⟩, ⟨#[]⟩, 0, ⟨0, 0, false, ⟨#[]⟩⟩, [], 2⟩ = (0, kv25 5) := by kernel_rfl
theorem aw25_5 : idx (named ⟨#[122]⟩) sa25.cols < 0 := by decide +kernel
theorem aw25_6 : applyP tb25 ⟨5, [], [], [], ⟨#[122]⟩, ⟨#[]⟩, 0, ⟨0, 0, false, ⟨#[]⟩⟩, [], 0⟩ = (tb25, 5) := by kernel_rfl
theorem fine_kv : ∀ vs ∈ tb25.rows, ∀ v ∈ vs, FineD v := by
  intro vs hvs v hv
  have h1 : vs = [kv25 5] := by simpa [tb25] using hvs
  subst h1
  have h2 : v = kv25 5 := by simpa using hv
  subst h2
  exact ⟨by decide, by decide, by decide⟩
theorem SameT.refl {t : Tb} (h : tabB t = true) : SameT t t := ⟨h, h, rfl, rfl, rfl, rfl, rfl, List.Perm.refl _⟩
theorem SaysB.yes {p : Prop} {e : Ending} (h : SaysB p e) (hp : p) : e = .returned (.bool true) := by
  obtain ⟨b, rfl, hb⟩ := h
  rw [hb.2 hp]
theorem SaysB.no {p : Prop} {e : Ending} (h : SaysB p e) (hp : ¬ p) : e = .returned (.bool false) := by
  obtain ⟨b, rfl, hb⟩ := h
  cases b with
  | false => rfl
  | true => exact absurd (hb.1 rfl) hp
set_option maxRecDepth 100000 in
set_option maxHeartbeats 16000000 in
theorem awake25_any (w : World) : Calls Tryz.prog 31 #[] w fun e w' => e = .returned (.bool true) ∧ Step w w' := by
  obtain ⟨W1, hW1⟩ : ∃ x : World, x = (w.alloc (.cells #[.string ⟨#[97]⟩] 9)).alloc (.cells #[.int .i64 1] 3) := ⟨_, rfl⟩
  have SW1 : Step w W1 := by rw [hW1]; exact Step.of
  have HW1 := hide hW1
  have NSC : Hid (Calls Tryz.prog 73 #[.slice (some ⟨w.heap.size, 0, none⟩) 1 1, .slice (some ⟨w.heap.size + 1, 0, none⟩) 1 1] W1 fun e w' => ∃ (A3 : Option Addr) (c3 : Nat), e = .returned (.tuple #[.agg #[.int .i64 0, .slice A3 1 c3, .int .i64 2], .int .i64 0]) ∧ 1 ≤ c3 ∧ c3 ≤ maxLen ∧ Own w' W1.heap.size 90 3 (.slice A3 1 c3) (sa25.cols.map Col.cells) ∧ Below W1.heap.size W1 w') := by
    have h1 := SlAt.strs1 (w := w) rfl ⟨#[97]⟩
    have h2 := SlAt.ints1 (w := w.alloc (.cells #[.string ⟨#[97]⟩] 9)) (b := w.heap.size + 1) (by simp) 1
    have := rnew_any [⟨#[97]⟩] [1] (some ⟨w.heap.size, 0, none⟩) (some ⟨w.heap.size + 1, 0, none⟩) 1 1 W1 (h1.al (.cells #[.int .i64 1] 3)) h2 (fn := by rw [hW1]; exact Fut.self _) (fk := by rw [hW1]; exact Fut.self _) (by decide) (fun n hn => by simp at hn; subst hn; decide)
    rw [aw25_0] at this
    exact this
  clear hW1
  go_enter Tryz.func31, Tryz.ntmps31
  go_upto_region 2 with (go_at_call 73; rw [HW1.out.symm]; (with_reducible refine NSC.out.mono ?_); rintro e w3 ⟨A3, c3, rfl, hc3, hm3, ho3, hb3⟩; have HO3 := hide ho3; have HM3 := hide (⟨hc3, hm3⟩ : _ ∧ _); have hs3 : Step W1 w3 := ⟨hb3⟩; clear ho3 hc3 hm3 hb3)
  obtain ⟨X1, hX1⟩ : ∃ x : World, x = w3.alloc (.cells #[.int .i64 0, .slice A3 1 c3, .int .i64 2] 24) := ⟨_, rfl⟩
  have SX1 : Step w3 X1 := by rw [hX1]; exact Step.of
  have HSB : Hid (Blk X1 w3.heap.size 24 [.int .i64 0, .slice A3 1 c3, .int .i64 2]) := by rw [hX1]; exact Blk.new w3 _ 24
  rw [← hX1]
  clear hX1
  have HSI : Hid (SchIn X1 sa25 A3 c3) := ⟨HM3.out.1, by have := HM3.out.2; simpa [maxLen] using this, by decide, HO3.out.fut.sl (cols_fit _).len, fun c hc => by simp [sa25] at hc; subst hc; decide⟩
  have NEWC : Hid (Calls Tryz.prog 27 #[.agg #[.int .i64 0, .slice A3 1 c3, .int .i64 2]] X1 fun e w' => ∃ (A' : Option Addr) (cap' : Nat), e = .returned (.tuple #[.agg #[.int .i64 0, .slice A' 1 cap', .int .i64 2, .int .i64 0, .slice none 0 0, .slice none 0 0], .int .i64 0]) ∧ 1 ≤ cap' ∧ Own w' X1.heap.size 90 3 (.slice A' 1 cap') (sa25.cols.map Col.cells) ∧ Step X1 w') := mnew_yes sa25 A3 c3 X1 HSI.out aw25_1
  have s0 := At.z3 HSB.out.at0
  obtain ⟨s0, s1, s2⟩ := s0
  have ls := HSB.out.lt
  go_upto_region 3 with (go_at_call 27; (with_reducible refine NEWC.out.mono ?_); rintro e w4 ⟨A4, c4, rfl, hc4, ho4, hs4⟩; have HO4 := hide ho4; have HC4 := hide hc4; clear ho4 hc4)
  obtain ⟨X2, hX2⟩ : ∃ x : World, x = w4.alloc (.cells #[.int .i64 0, .slice A4 1 c4, .int .i64 2, .int .i64 0, .slice none 0 0, .slice none 0 0] 30) := ⟨_, rfl⟩
  have SX2 : Step w4 X2 := by rw [hX2]; exact Step.of
  have HT0B : Hid (Blk X2 w4.heap.size 30 [.int .i64 0, .slice A4 1 c4, .int .i64 2, .int .i64 0, .slice none 0 0, .slice none 0 0]) := by rw [hX2]; exact Blk.new w4 _ 30
  have HZ2 : Hid (X2.heap.size = w4.heap.size + 1) := by rw [hX2]; show _ = _; simp
  rw [← hX2]
  clear hX2 s0 s1 s2 ls
  have HTI0 : Hid (TbIn X2 ⟨sa25, A4, c4, 0, [], none, 0, [], none, 0⟩) := tb_in (base := X1.heap.size) ⟨HO4.out.fut, Own.nil_ _ _ _ _, ⟨Own.nil_ _ _ _ _, fun r h => by simp at h⟩⟩ (by kernel_rfl)
  obtain ⟨z0, z1, z2, z3, z4, z5⟩ := At.z6 HT0B.out.at0
  have lz := HT0B.out.lt
  obtain ⟨X3, hX3⟩ : ∃ x : World, x = X2.alloc (.cells #[.int .i64 1, .int .i64 5, .bool false, .string ⟨#[]⟩] 36) := ⟨_, rfl⟩
  have SX3 : Step X2 X3 := by rw [hX3]; exact Step.of
  have HFV : Hid (Blk X3 X2.heap.size 36 [.int .i64 1, .int .i64 5, .bool false, .string ⟨#[]⟩]) := by rw [hX3]; exact Blk.new X2 _ 36
  have HZ3 : Hid (X3.heap.size = X2.heap.size + 1) := by rw [hX3]; show _ = _; simp
  go_upto_region 4 with fail
  rw [← hX3]
  clear hX3 z0 z1 z2 z3 z4 z5 lz
  obtain ⟨z0, z1, z2, z3, z4, z5⟩ := At.z6 (HT0B.out.fut (w' := X3)).at0
  have lz := (HT0B.out.fut (w' := X3)).lt
  obtain ⟨v0, v1, v2, v3⟩ := At.z4 HFV.out.at0
  have lv := HFV.out.lt
  obtain ⟨W5, hW5⟩ : ∃ x : World, x = ((X3.alloc (.cells #[.string ⟨#[97]⟩] 9)).alloc (.cells #[.int .i64 1, .int .i64 5, .bool false, .string ⟨#[]⟩] 36)).alloc (.cells #[.slice (some ⟨X3.heap.size + 1, 0, none⟩) 1 1] 67) := ⟨_, rfl⟩
  have SW5 : Step X3 W5 := by rw [hW5]; exact Step.of
  have HC5 : Hid (Blk W5 X3.heap.size 9 [.string ⟨#[97]⟩]) := by rw [hW5]; exact ((Blk.new X3 _ 9).alloc _).alloc _
  have HV5 : Hid (Blk W5 (X3.heap.size + 1) 36 [.int .i64 1, .int .i64 5, .bool false, .string ⟨#[]⟩]) := by rw [hW5]; exact (Blk.new_at (by simp) _ 36).alloc _
  have HR5 : Hid (Blk W5 (X3.heap.size + 2) 67 [.slice (some ⟨X3.heap.size + 1, 0, none⟩) 1 1]) := by rw [hW5]; exact Blk.new_at (by simp) _ 67
  have HW5 := hide hW5
  clear hW5
  have AP1 : Hid (Calls Tryz.prog 13 #[.agg #[.int .i64 0, .slice A4 1 c4, .int .i64 2, .int .i64 0, .slice none 0 0, .slice none 0 0], .agg #[.int .i64 0, .string ⟨#[]⟩, .slice (some ⟨X3.heap.size, 0, none⟩) 1 1, .slice (some ⟨X3.heap.size + 2, 0, none⟩) 1 1, .slice none 0 0, .string ⟨#[]⟩, .string ⟨#[]⟩, .int .i64 0, .int .i64 0, .int .i64 0, .bool false, .string ⟨#[]⟩, .slice none 0 0, .int .i64 0, .int .i64 0, .int .i64 0]] W5 (ApplyR W5 (tb25, 0))) := by
    have := apply_add (w0 := X2) (w1 := W5) ⟨sa25, A4, c4, 0, [], none, 0, [], none, 0⟩ (opD 0 [⟨#[97]⟩] (some ⟨X3.heap.size, 0, none⟩) [⟨some ⟨X3.heap.size + 1, 0, none⟩, 1, [kv25 5]⟩] (some ⟨X3.heap.size + 2, 0, none⟩) [] none ⟨#[]⟩ ⟨#[]⟩ 0 ⟨0, 0, false, ⟨#[]⟩⟩ [] none 0) W5 HTI0.out
      ⟨SlAt.of_blk25 HC5.out rfl (txs_fit [⟨#[97]⟩]).len, (by show 1 ≤ 8796093022207; decide), Nat.le_refl _, row_one25 HV5.out HR5.out, fun r hr v hv => by
        simp only [opD, List.mem_cons, List.not_mem_nil, or_false] at hr
        subst hr
        simp only [List.mem_cons, List.not_mem_nil, or_false] at hv
        subst hv
        exact ⟨by decide, by decide, by decide⟩, PrIn.none_ _, FsIn.none_ _, Nat.zero_le _, FineD.zero, (by show 0 ≤ 9223372036854775807; decide)⟩ rfl
    rw [show applyP (TbA.tb ⟨sa25, A4, c4, 0, [], none, 0, [], none, 0⟩) (OpA.op (opD 0 [⟨#[97]⟩] (some ⟨X3.heap.size, 0, none⟩) [⟨some ⟨X3.heap.size + 1, 0, none⟩, 1, [kv25 5]⟩] (some ⟨X3.heap.size + 2, 0, none⟩) [] none ⟨#[]⟩ ⟨#[]⟩ 0 ⟨0, 0, false, ⟨#[]⟩⟩ [] none 0)) = (tb25, 0) from aw25_2] at this
    exact this
  go_upto_region 5 with (go_at_call 13; rw [HW5.out.symm]; (with_reducible refine AP1.out.mono ?_); rintro e w6 ⟨t1, rfl, ht1, ho6, hs6⟩; have HT1 := hide ht1; have HO6 := hide ho6; clear ht1 ho6)
  clear z0 z1 z2 z3 z4 z5 lz v0 v1 v2 v3 lv
  obtain ⟨X6, hX6⟩ : ∃ x : World, x = w6.alloc (.cells #[.int .i64 t1.s.id, .slice t1.As t1.s.cols.length t1.cs, .int .i64 t1.s.next, .int .i64 t1.sid, .slice t1.Af t1.fs.length t1.cf, .slice t1.Ar t1.rs.length t1.cr] 30) := ⟨_, rfl⟩
  have SX6 : Step w6 X6 := by rw [hX6]; exact Step.of
  have HT1B : Hid (Blk X6 w6.heap.size 30 [.int .i64 t1.s.id, .slice t1.As t1.s.cols.length t1.cs, .int .i64 t1.s.next, .int .i64 t1.sid, .slice t1.Af t1.fs.length t1.cf, .slice t1.Ar t1.rs.length t1.cr]) := by rw [hX6]; exact Blk.new w6 _ 30
  rw [← hX6]
  clear hX6
  have HTI1 : Hid (TbIn X6 t1) := tb_in HO6.out.fut (by rw [HT1.out]; exact aw25_3)
  have HLN : Hid (t1.rs.length = 1) := by
    show _ = _
    have := congrArg (fun q => q.rows.length) HT1.out
    simpa [TbA.tb, tb25] using this
  have hln : (t1.rs.length : Int) = 1 := by rw [HLN.out]; rfl
  have HLNI := hide hln
  clear hln
  obtain ⟨t0, t1_, t2_, t3_, t4_, t5_⟩ := At.z6 HT1B.out.at0
  have lt_ := HT1B.out.lt
  have RD1 : Hid (Calls Tryz.prog 32 #[.agg #[.int .i64 t1.s.id, .slice t1.As t1.s.cols.length t1.cs, .int .i64 t1.s.next, .int .i64 t1.sid, .slice t1.Af t1.fs.length t1.cf, .slice t1.Ar t1.rs.length t1.cr], .agg #[.int .i64 9, .string ⟨#[]⟩, .slice none 0 0, .slice none 0 0, .slice none 0 0, .string ⟨#[97]⟩, .string ⟨#[]⟩, .int .i64 0, .int .i64 0, .int .i64 0, .bool false, .string ⟨#[]⟩, .slice none 0 0, .int .i64 0, .int .i64 0, .int .i64 2]] X6 fun e w' => e = .returned (.agg #[.int .i64 0, .slice none 0 0, .slice none 0 0, .int .i64 1, .int .i64 5, .bool false, .string ⟨#[]⟩]) ∧ Step X6 w') := by
    have := readAgg (w0 := X6) (w1 := X6) t1 (opD 9 [] none [] none [] none ⟨#[97]⟩ ⟨#[]⟩ 0 ⟨0, 0, false, ⟨#[]⟩⟩ [] none 2) X6 HTI1.out (op_little X6 9 ⟨#[97]⟩ ⟨#[]⟩ 0 2 (by decide)) (by show (2 : Int) ≠ 0; decide) (by rw [HT1.out]; exact fine_kv)
    rw [HT1.out] at this
    rw [show readT tb25 (OpA.op (opD 9 [] none [] none [] none ⟨#[97]⟩ ⟨#[]⟩ 0 ⟨0, 0, false, ⟨#[]⟩⟩ [] none 2)) = (0, kv25 5) from aw25_4] at this
    exact this
  go_upto_region 6 with (go_at_call 32; (with_reducible refine RD1.out.mono ?_); rintro e w7 ⟨rfl, hs7⟩)
  clear t0 t1_ t2_ t3_ t4_ t5_ lt_
  obtain ⟨X7, hX7⟩ : ∃ x : World, x = w7.alloc (.cells #[.int .i64 0, .slice none 0 0, .slice none 0 0, .int .i64 1, .int .i64 5, .bool false, .string ⟨#[]⟩] 59) := ⟨_, rfl⟩
  have SX7 : Step w7 X7 := by rw [hX7]; exact Step.of
  have HAN : Hid (Blk X7 w7.heap.size 59 [.int .i64 0, .slice none 0 0, .slice none 0 0, .int .i64 1, .int .i64 5, .bool false, .string ⟨#[]⟩]) := by rw [hX7]; exact Blk.new w7 _ 59
  rw [← hX7]
  clear hX7
  obtain ⟨t0, t1_, t2_, t3_, t4_, t5_⟩ := At.z6 (HT1B.out.fut (w' := X7)).at0
  have lt_ := (HT1B.out.fut (w' := X7)).lt
  have AP2 : Hid (Calls Tryz.prog 13 #[.agg #[.int .i64 t1.s.id, .slice t1.As t1.s.cols.length t1.cs, .int .i64 t1.s.next, .int .i64 t1.sid, .slice t1.Af t1.fs.length t1.cf, .slice t1.Ar t1.rs.length t1.cr], .agg #[.int .i64 5, .string ⟨#[]⟩, .slice none 0 0, .slice none 0 0, .slice none 0 0, .string ⟨#[122]⟩, .string ⟨#[]⟩, .int .i64 0, .int .i64 0, .int .i64 0, .bool false, .string ⟨#[]⟩, .slice none 0 0, .int .i64 0, .int .i64 0, .int .i64 0]] X7 (ApplyR X7 (tb25, 5))) := by
    have := apply_drop_none (w0 := X6) t1 (opD 5 [] none [] none [] none ⟨#[122]⟩ ⟨#[]⟩ 0 ⟨0, 0, false, ⟨#[]⟩⟩ [] none 0) X7 HTI1.out rfl (by rw [show t1.s = sa25 from congrArg Tb.s HT1.out]; exact aw25_5)
    rw [HT1.out] at this
    rw [show applyP tb25 (OpA.op (opD 5 [] none [] none [] none ⟨#[122]⟩ ⟨#[]⟩ 0 ⟨0, 0, false, ⟨#[]⟩⟩ [] none 0)) = (tb25, 5) from aw25_6] at this
    exact this
  go_upto_region 7 with (go_at_call 13; (with_reducible refine AP2.out.mono ?_); rintro e w8 ⟨t2, rfl, ht2, ho8, hs8⟩; clear ht2 ho8)
  clear t0 t1_ t2_ t3_ t4_ t5_ lt_
  obtain ⟨X8, hX8⟩ : ∃ x : World, x = w8.alloc (.cells #[.int .i64 t2.s.id, .slice t2.As t2.s.cols.length t2.cs, .int .i64 t2.s.next, .int .i64 t2.sid, .slice t2.Af t2.fs.length t2.cf, .slice t2.Ar t2.rs.length t2.cr] 30) := ⟨_, rfl⟩
  have SX8 : Step w8 X8 := by rw [hX8]; exact Step.of
  rw [← hX8]
  clear hX8
  have MAYC : Hid (∀ (w' : World) [Fut X6 w'], Calls Tryz.prog 19 #[.agg #[.int .i64 t1.s.id, .slice t1.As t1.s.cols.length t1.cs, .int .i64 t1.s.next, .int .i64 t1.sid, .slice t1.Af t1.fs.length t1.cf, .slice t1.Ar t1.rs.length t1.cr]] w' fun e w'' => e = .returned (.bool true) ∧ Step w' w'') := fun w' _ => by
    have := mmay_any t1 w' HTI1.out
    rw [HT1.out, aw25_3] at this
    exact this
  have SM1 : Hid (∀ (w' : World) [Fut X6 w'], Calls Tryz.prog 21 #[.agg #[.int .i64 t1.s.id, .slice t1.As t1.s.cols.length t1.cs, .int .i64 t1.s.next, .int .i64 t1.sid, .slice t1.Af t1.fs.length t1.cf, .slice t1.Ar t1.rs.length t1.cr], .agg #[.int .i64 t1.s.id, .slice t1.As t1.s.cols.length t1.cs, .int .i64 t1.s.next, .int .i64 t1.sid, .slice t1.Af t1.fs.length t1.cf, .slice t1.Ar t1.rs.length t1.cr]] w' fun e w'' => e = .returned (.bool true) ∧ Step w' w'') := fun w' _ =>
    (msame_any t1 t1 w' HTI1.out HTI1.out).mono fun e w'' h => ⟨h.1.yes (by rw [HT1.out]; exact SameT.refl aw25_3), h.2⟩
  have SM2 : Hid (∀ (w' : World) [Fut X2 w'] [Fut X6 w'], Calls Tryz.prog 21 #[.agg #[.int .i64 0, .slice A4 1 c4, .int .i64 2, .int .i64 0, .slice none 0 0, .slice none 0 0], .agg #[.int .i64 t1.s.id, .slice t1.As t1.s.cols.length t1.cs, .int .i64 t1.s.next, .int .i64 t1.sid, .slice t1.Af t1.fs.length t1.cf, .slice t1.Ar t1.rs.length t1.cr]] w' fun e w'' => e = .returned (.bool false) ∧ Step w' w'') := fun w' _ _ =>
    (msame_any ⟨sa25, A4, c4, 0, [], none, 0, [], none, 0⟩ t1 w' HTI0.out HTI1.out).mono fun e w'' h => ⟨h.1.no (fun hs => by
      have := hs.rows.length_eq
      rw [HT1.out] at this
      simp [TbA.tb, tb25] at this), h.2⟩
  obtain ⟨z0, z1, z2, z3, z4, z5⟩ := At.z6 (HT0B.out.fut (w' := X8)).at0
  have lz := (HT0B.out.fut (w' := X8)).lt
  obtain ⟨p0, p1, p2, p3, p4, p5⟩ := At.z6 (HT1B.out.fut (w' := X8)).at0
  have lp := (HT1B.out.fut (w' := X8)).lt
  obtain ⟨v0, v1, v2, v3⟩ := At.z4 (HFV.out.fut (w' := X8)).at0
  have lv := (HFV.out.fut (w' := X8)).lt
  obtain ⟨a0, a1, a2, a3, a4, a5, a6⟩ := At.z7 (HAN.out.fut (w' := X8)).at0
  have la := (HAN.out.fut (w' := X8)).lt
  have hlb : ((t1.rs.length : Int) == 1) = true := by rw [HLNI.out]; rfl
  go_wp2_with (first | (go_at_call 29; (with_reducible refine (num25_any _ _).mono ?_); rintro e w' ⟨rfl, h9⟩; obtain rfl := h9.symm; clear h9) | (go_at_call 19; (with_reducible refine (MAYC.out _).mono ?_); rintro e w11 ⟨rfl, hs11⟩; clear z0 z1 z2 z3 z4 z5 lz p0 p1 p2 p3 p4 p5 lp v0 v1 v2 v3 lv a0 a1 a2 a3 a4 a5 a6 la; obtain ⟨z0, z1, z2, z3, z4, z5⟩ := At.z6 (HT0B.out.fut (w' := w11)).at0; have lz := (HT0B.out.fut (w' := w11)).lt; obtain ⟨p0, p1, p2, p3, p4, p5⟩ := At.z6 (HT1B.out.fut (w' := w11)).at0; have lp := (HT1B.out.fut (w' := w11)).lt; obtain ⟨v0, v1, v2, v3⟩ := At.z4 (HFV.out.fut (w' := w11)).at0; have lv := (HFV.out.fut (w' := w11)).lt; obtain ⟨a0, a1, a2, a3, a4, a5, a6⟩ := At.z7 (HAN.out.fut (w' := w11)).at0; have la := (HAN.out.fut (w' := w11)).lt) | (go_at_call 21; first | ((with_reducible refine (SM1.out _).mono ?_); rintro e w12 ⟨rfl, hs12⟩; clear z0 z1 z2 z3 z4 z5 lz p0 p1 p2 p3 p4 p5 lp v0 v1 v2 v3 lv a0 a1 a2 a3 a4 a5 a6 la; obtain ⟨z0, z1, z2, z3, z4, z5⟩ := At.z6 (HT0B.out.fut (w' := w12)).at0; have lz := (HT0B.out.fut (w' := w12)).lt; obtain ⟨p0, p1, p2, p3, p4, p5⟩ := At.z6 (HT1B.out.fut (w' := w12)).at0; have lp := (HT1B.out.fut (w' := w12)).lt; obtain ⟨v0, v1, v2, v3⟩ := At.z4 (HFV.out.fut (w' := w12)).at0; have lv := (HFV.out.fut (w' := w12)).lt; obtain ⟨a0, a1, a2, a3, a4, a5, a6⟩ := At.z7 (HAN.out.fut (w' := w12)).at0; have la := (HAN.out.fut (w' := w12)).lt) | ((with_reducible refine (SM2.out _).mono ?_); rintro e w13 ⟨rfl, hs13⟩; clear z0 z1 z2 z3 z4 z5 lz p0 p1 p2 p3 p4 p5 lp v0 v1 v2 v3 lv a0 a1 a2 a3 a4 a5 a6 la; obtain ⟨z0, z1, z2, z3, z4, z5⟩ := At.z6 (HT0B.out.fut (w' := w13)).at0; have lz := (HT0B.out.fut (w' := w13)).lt; obtain ⟨p0, p1, p2, p3, p4, p5⟩ := At.z6 (HT1B.out.fut (w' := w13)).at0; have lp := (HT1B.out.fut (w' := w13)).lt; obtain ⟨v0, v1, v2, v3⟩ := At.z4 (HFV.out.fut (w' := w13)).at0; have lv := (HFV.out.fut (w' := w13)).lt; obtain ⟨a0, a1, a2, a3, a4, a5, a6⟩ := At.z7 (HAN.out.fut (w' := w13)).at0; have la := (HAN.out.fut (w' := w13)).lt)))
  go_ret
  exact ⟨rfl, Step.of⟩
end Go.Proofs.YtnphokhehacfnaaGreatDoor

