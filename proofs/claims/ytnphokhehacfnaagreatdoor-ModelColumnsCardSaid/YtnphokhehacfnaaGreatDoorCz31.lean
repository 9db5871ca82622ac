/-
  Texts put together: Xs.
-/
import Derived.Test.YtnphokhehacfnaaGreatDoorCz24
import Derived.Test.YtnphokhehacfnaaGreatDoorCz28
import Derived.Test.YtnphokhehacfnaaGreatDoorCz29
import Derived.Test.YtnphokhehacfnaaGreatDoorCz30
namespace Go.Proofs.YtnphokhehacfnaaGreatDoor
open Go.RowKit

theorem rem3 (x : Int) : ∃ a : Int, wrap64 (1 + wrap64 ((IntKind.u64.wrap x).tmod 3)) = a ∧ (a = 1 ∨ a = 2 ∨ a = 3) := by
  have h0 : 0 ≤ IntKind.u64.wrap x := by simp [IntKind.wrap, IntKind.bits, IntKind.signed]; omega
  have h1 : (IntKind.u64.wrap x).tmod 3 = (IntKind.u64.wrap x) % 3 := Int.tmod_eq_emod_of_nonneg h0
  have h2 := Int.emod_nonneg (IntKind.u64.wrap x) (show (3 : Int) ≠ 0 by omega)
  have h3 := Int.emod_lt_of_pos (IntKind.u64.wrap x) (show (0 : Int) < 3 by omega)
  refine ⟨_, rfl, ?_⟩
  rw [h1]
  unfold wrap64
  omega
theorem fine_row2 {ys : List Int} (hr : ∀ x ∈ ys, -9223372036854775808 ≤ x ∧ x ≤ 9223372036854775807) : ∀ vs ∈ ys.map row2, ∀ v ∈ vs, FineD v := by
  intro vs hvs v hv
  obtain ⟨x, hx, rfl⟩ := List.mem_map.1 hvs
  simp only [row2, List.mem_cons, List.not_mem_nil, or_false] at hv
  rcases hv with rfl | rfl
  · exact ⟨(by show 0 ≤ 9223372036854775000; decide), hr x hx⟩
  · exact FineD.zero
theorem fine_add {l : List (List Val)} (h : ∀ vs ∈ l, ∀ v ∈ vs, FineD v) : ∀ vs ∈ l.map (· ++ [Val.zero]), ∀ v ∈ vs, FineD v := by
  intro vs hvs v hv
  obtain ⟨r, hr, rfl⟩ := List.mem_map.1 hvs
  rcases List.mem_append.1 hv with hv | hv
  · exact h r hr v hv
  · simp only [List.mem_cons, List.not_mem_nil, or_false] at hv
    rw [hv]
    exact FineD.zero
theorem fine_drop {l : List (List Val)} (h : ∀ vs ∈ l, ∀ v ∈ vs, FineD v) : ∀ vs ∈ l.map (·.eraseIdx 0), ∀ v ∈ vs, FineD v := by
  intro vs hvs v hv
  obtain ⟨r, hr, rfl⟩ := List.mem_map.1 hvs
  exact h r hr v (List.mem_of_mem_eraseIdx hv)
theorem one_str {w : World} {b : Nat} {s : ByteArray} (h : Blk w b 9 [.string s]) : SlAt w w.heap.size 1 (some ⟨b, 0, none⟩) (strCells [s]) := SlAt.of_at (size := 1) (l := strCells [s]) h.at0 h.lt (fun x hx => by simp only [strCells, List.map_cons, List.map_nil, List.mem_cons, List.not_mem_nil, or_false] at hx; rw [hx]; rfl)
theorem before_mem {ys : List Int} {vs : List Val} (h : vs ∈ (beforeR ys).map cleanL) : ∃ x ∈ ys, vs = [kv25 x] := by
  obtain ⟨u, hu, rfl⟩ := List.mem_map.1 h
  obtain ⟨r, hr, rfl⟩ := List.mem_map.1 hu
  obtain ⟨q, hq, rfl⟩ := List.mem_map.1 hr
  obtain ⟨x, hx, rfl⟩ := List.mem_map.1 hq
  exact ⟨x, hx, rfl⟩
theorem rows_len {w : World} {base : Nat} {ns : List ByteArray} {ys : List Int} {An : Option Addr} {cn : Nat} {os : List RowA} {Ar : Option Addr} {cr : Nat} (h : RowsOut w base ns (beforeR ys) An cn os Ar cr) : os.length = ys.length := by
  have := h.perm.length_eq
  simpa [beforeR] using this
theorem rows_fine {w : World} {base : Nat} {ns : List ByteArray} {ys : List Int} {An : Option Addr} {cn : Nat} {os : List RowA} {Ar : Option Addr} {cr : Nat} (_hr : ∀ x ∈ ys, -9223372036854775808 ≤ x ∧ x ≤ 9223372036854775807) (h : RowsOut w base ns (beforeR ys) An cn os Ar cr) : ∀ vs ∈ os.map RowA.vs, vs.length ≤ 3518437208780 ∧ ∀ v ∈ vs, v.s.size ≤ 9223372036854775807 := by
  intro vs hvs
  obtain ⟨x, _, rfl⟩ := before_mem (h.perm.mem_iff.1 hvs)
  refine ⟨by show 1 ≤ _; decide, fun v hv => ?_⟩
  simp only [List.mem_cons, List.not_mem_nil, or_false] at hv
  rw [hv]
  show 0 ≤ _
  decide
set_option maxRecDepth 100000 in
set_option maxHeartbeats 16000000 in
theorem columns_any {w0 : World} (xs : List Int) (A : Option Addr) (cap : Nat) (c : Int) (w : World) (h : SlAt w0 w0.heap.size 1 A (intCells xs)) [f0 : Fut w0 w] (hl : xs.length ≤ 4611686018427387904) (hr : ∀ x ∈ xs, -9223372036854775808 ≤ x ∧ x ≤ 9223372036854775807) :
    Calls Tryz.prog 10 #[.slice A xs.length cap, .int .i64 c] w fun e w' => e = .returned (.bool true) ∧ Step w w' := by
  have FC : Hid (∀ (w' : World) [Fut w w'], Calls Tryz.prog 35 #[.slice A xs.length cap] w' fun e w'' => ∃ t : TbA, e = .returned (.tuple #[.agg #[.int .i64 t.s.id, .slice t.As t.s.cols.length t.cs, .int .i64 t.s.next, .int .i64 t.sid, .slice t.Af t.fs.length t.cf, .slice t.Ar t.rs.length t.cr], .bool true]) ∧ t.tb = fil25 xs ∧ TbOwnR w'' w'.heap.size t ∧ Step w' w'') := fun w' hq => haveI := Fut.tr f0 hq; filled_any xs A cap w' h hl hr
  obtain ⟨ys, hys⟩ : ∃ ys, xs.take 20 = ys := ⟨_, rfl⟩
  have HYL : Hid (ys.length ≤ 20) := by show _ ≤ _; rw [← hys, List.length_take]; omega
  have HYR : Hid (∀ x ∈ ys, -9223372036854775808 ≤ x ∧ x ≤ 9223372036854775807) := fun x hx => hr x (List.mem_of_mem_take (by rw [hys]; exact hx))
  have HYF : Hid (fil25 xs = tab2 ys) := by show _ = _; rw [← hys]; rfl
  clear hr
  go_enter Tryz.func10, Tryz.ntmps10
  go_upto_region 4 with (first | (go_at_call 31; (with_reducible refine (awake25_any _).mono ?_); rintro e w1 ⟨rfl, hs1⟩) | (go_at_call 35; (with_reducible refine (FC.out _).mono ?_); rintro e w2 ⟨tA, rfl, ht1, ho1, hs2⟩; have HT1 := hide ht1; have HO1 := hide ho1; clear ht1 ho1))
  rw [HYF.out] at HT1
  obtain ⟨X4, hX4⟩ : ∃ x : World, x = w2.alloc (.cells #[.int .i64 tA.s.id, .slice tA.As tA.s.cols.length tA.cs, .int .i64 tA.s.next, .int .i64 tA.sid, .slice tA.Af tA.fs.length tA.cf, .slice tA.Ar tA.rs.length tA.cr] 30) := ⟨_, rfl⟩
  have SX4 : Step w2 X4 := by rw [hX4]; exact Step.of
  have HTA : Hid (Blk X4 w2.heap.size 30 [.int .i64 tA.s.id, .slice tA.As tA.s.cols.length tA.cs, .int .i64 tA.s.next, .int .i64 tA.sid, .slice tA.Af tA.fs.length tA.cf, .slice tA.Ar tA.rs.length tA.cr]) := by rw [hX4]; exact Blk.new w2 _ 30
  rw [← hX4]
  clear hX4 hys
  have HTIA : Hid (TbIn X4 tA) := tb_in HO1.out.fut (by rw [HT1.out]; exact tab2_may HYL.out)
  obtain ⟨k, hk, hk3⟩ := rem3 c
  have HK3 := hide hk3
  clear hk3
  have AP1 : Hid (∀ (w' : World) [Fut X4 w'], Calls Tryz.prog 13 #[.agg #[.int .i64 tA.s.id, .slice tA.As tA.s.cols.length tA.cs, .int .i64 tA.s.next, .int .i64 tA.sid, .slice tA.Af tA.fs.length tA.cf, .slice tA.Ar tA.rs.length tA.cr], .agg #[.int .i64 4, .string ⟨#[]⟩, .slice none 0 0, .slice none 0 0, .slice none 0 0, .string ⟨#[]⟩, .string ⟨#[110]⟩, .int .i64 k, .int .i64 0, .int .i64 0, .bool false, .string ⟨#[]⟩, .slice none 0 0, .int .i64 0, .int .i64 0, .int .i64 0]] w' (ApplyR w' (tc1 k ys, 0))) := by
    intro w' _
    have := apply_cols (w0 := X4) (w1 := X4) tA ⟨4, ⟨#[]⟩, [], none, 0, [], none, 0, [], none, 0, ⟨#[]⟩, ⟨#[110]⟩, k, no25, [], none, 0, 0, 0, 0⟩ w' HTIA.out ⟨SlAt.nil_, by show 0 ≤ _; decide, by show 0 ≤ 0; decide, RowsIn.none_ _, fun r h => by simp at h, PrIn.none_ _, FsIn.none_ _, Nat.zero_le _, FineD.zero, (by show 1 ≤ 9223372036854775807; decide)⟩ (by first | exact .inl rfl | exact .inr (.inl rfl) | exact .inr (.inr rfl))
    rw [HT1.out] at this
    rw [show applyP _ (OpA.op ⟨4, ⟨#[]⟩, [], none, 0, [], none, 0, [], none, 0, ⟨#[]⟩, ⟨#[110]⟩, k, no25, [], none, 0, 0, 0, 0⟩) = _ from cstep1 HK3.out HYL.out] at this
    exact this
  go_upto_region 5 with fail
  rw [hk]
  clear hk
  obtain ⟨t0, t1, t2, t3, t4, t5⟩ := At.z6 (HTA.out.fut (w' := X4)).at0
  have lt := (HTA.out.fut (w' := X4)).lt
  go_upto_region 6 with (go_at_call 13; (with_reducible refine (AP1.out _).mono ?_); rintro e w3 ⟨tB, rfl, HT2_, HO2_, hsw3⟩; have HT2 := hide HT2_; have HO2 := hide HO2_; clear HT2_ HO2_)
  clear t0 t1 t2 t3 t4 t5 lt
  obtain ⟨X5, hX5⟩ : ∃ x : World, x = w3.alloc (.cells #[.int .i64 tB.s.id, .slice tB.As tB.s.cols.length tB.cs, .int .i64 tB.s.next, .int .i64 tB.sid, .slice tB.Af tB.fs.length tB.cf, .slice tB.Ar tB.rs.length tB.cr] 30) := ⟨_, rfl⟩
  have SX5 : Step w3 X5 := by rw [hX5]; exact Step.of
  have HTB : Hid (Blk X5 w3.heap.size 30 [.int .i64 tB.s.id, .slice tB.As tB.s.cols.length tB.cs, .int .i64 tB.s.next, .int .i64 tB.sid, .slice tB.Af tB.fs.length tB.cf, .slice tB.Ar tB.rs.length tB.cr]) := by rw [hX5]; exact Blk.new w3 _ 30
  have HO2F : Hid (TbOwnR X5 _ tB) := HO2.out.fut
  rw [← hX5]
  clear hX5
  have HTIB : Hid (TbIn X5 tB) := tb_in HO2F.out (by rw [HT2.out]; exact may1 HK3.out HYL.out)
  have HFB : Hid (∀ vs ∈ tB.tb.rows, ∀ v ∈ vs, FineD v) := by show ∀ vs ∈ tB.tb.rows, ∀ v ∈ vs, FineD v; rw [HT2.out]; exact fine_add (fine_row2 HYR.out)
  have RA1 : Hid (∀ (w' : World) [Fut X5 w'], Calls Tryz.prog 32 #[.agg #[.int .i64 tB.s.id, .slice tB.As tB.s.cols.length tB.cs, .int .i64 tB.s.next, .int .i64 tB.sid, .slice tB.Af tB.fs.length tB.cf, .slice tB.Ar tB.rs.length tB.cr], .agg #[.int .i64 9, .string ⟨#[]⟩, .slice none 0 0, .slice none 0 0, .slice none 0 0, .string ⟨#[110]⟩, .string ⟨#[]⟩, .int .i64 0, .int .i64 0, .int .i64 0, .bool false, .string ⟨#[]⟩, .slice none 0 0, .int .i64 0, .int .i64 0, .int .i64 1]] w' fun e w'' => e = .returned (.agg #[.int .i64 0, .slice none 0 0, .slice none 0 0, .int .i64 1, .int .i64 0, .bool false, .string ⟨#[]⟩]) ∧ Step w' w'') := by
    intro w' _
    have := readAgg (w0 := X5) (w1 := X5) tB ⟨9, ⟨#[]⟩, [], none, 0, [], none, 0, [], none, 0, ⟨#[110]⟩, ⟨#[]⟩, 0, no25, [], none, 0, 0, 0, 1⟩ w' HTIB.out ⟨SlAt.nil_, by show 0 ≤ _; decide, by show 0 ≤ 0; decide, RowsIn.none_ _, fun r h => by simp at h, PrIn.none_ _, FsIn.none_ _, Nat.zero_le _, FineD.zero, (by show 0 ≤ 9223372036854775807; decide)⟩ (by show (1 : Int) ≠ 0; decide) HFB.out
    rw [HT2.out] at this
    rw [show readT _ (OpA.op ⟨9, ⟨#[]⟩, [], none, 0, [], none, 0, [], none, 0, ⟨#[110]⟩, ⟨#[]⟩, 0, no25, [], none, 0, 0, 0, 1⟩) = _ from cnulls HK3.out HYL.out] at this
    exact this
  obtain ⟨t0, t1, t2, t3, t4, t5⟩ := At.z6 (HTB.out.fut (w' := X5)).at0
  have lt := (HTB.out.fut (w' := X5)).lt
  go_upto_region 7 with (go_at_call 32; (with_reducible refine (RA1.out _).mono ?_); rintro e w4 ⟨rfl, hsw4⟩)
  clear t0 t1 t2 t3 t4 t5 lt
  obtain ⟨X6, hX6⟩ : ∃ x : World, x = w4.alloc (.cells #[.int .i64 0, .slice none 0 0, .slice none 0 0, .int .i64 1, .int .i64 0, .bool false, .string ⟨#[]⟩] 59) := ⟨_, rfl⟩
  have SX6 : Step w4 X6 := by rw [hX6]; exact Step.of
  have HNU : Hid (Blk X6 w4.heap.size 59 [.int .i64 0, .slice none 0 0, .slice none 0 0, .int .i64 1, .int .i64 0, .bool false, .string ⟨#[]⟩]) := by rw [hX6]; exact Blk.new w4 _ 59
  rw [← hX6]
  clear hX6
  have AP2 : Hid (∀ (w' : World) [Fut X5 w'], Calls Tryz.prog 13 #[.agg #[.int .i64 tB.s.id, .slice tB.As tB.s.cols.length tB.cs, .int .i64 tB.s.next, .int .i64 tB.sid, .slice tB.Af tB.fs.length tB.cf, .slice tB.Ar tB.rs.length tB.cr], .agg #[.int .i64 6, .string ⟨#[]⟩, .slice none 0 0, .slice none 0 0, .slice none 0 0, .string ⟨#[97]⟩, .string ⟨#[122]⟩, .int .i64 0, .int .i64 0, .int .i64 0, .bool false, .string ⟨#[]⟩, .slice none 0 0, .int .i64 0, .int .i64 0, .int .i64 0]] w' (ApplyR w' (tc2 k ys, 0))) := by
    intro w' _
    have := apply_cols (w0 := X5) (w1 := X5) tB ⟨6, ⟨#[]⟩, [], none, 0, [], none, 0, [], none, 0, ⟨#[97]⟩, ⟨#[122]⟩, 0, no25, [], none, 0, 0, 0, 0⟩ w' HTIB.out ⟨SlAt.nil_, by show 0 ≤ _; decide, by show 0 ≤ 0; decide, RowsIn.none_ _, fun r h => by simp at h, PrIn.none_ _, FsIn.none_ _, Nat.zero_le _, FineD.zero, (by show 1 ≤ 9223372036854775807; decide)⟩ (by first | exact .inl rfl | exact .inr (.inl rfl) | exact .inr (.inr rfl))
    rw [HT2.out] at this
    rw [show applyP _ (OpA.op ⟨6, ⟨#[]⟩, [], none, 0, [], none, 0, [], none, 0, ⟨#[97]⟩, ⟨#[122]⟩, 0, no25, [], none, 0, 0, 0, 0⟩) = _ from cstep2 HK3.out HYL.out] at this
    exact this
  obtain ⟨t0, t1, t2, t3, t4, t5⟩ := At.z6 (HTB.out.fut (w' := X6)).at0
  have lt := (HTB.out.fut (w' := X6)).lt
  go_upto_region 8 with (go_at_call 13; (with_reducible refine (AP2.out _).mono ?_); rintro e w5 ⟨tC, rfl, HT3_, HO3_, hsw5⟩; have HT3 := hide HT3_; have HO3 := hide HO3_; clear HT3_ HO3_)
  clear t0 t1 t2 t3 t4 t5 lt
  obtain ⟨X7, hX7⟩ : ∃ x : World, x = w5.alloc (.cells #[.int .i64 tC.s.id, .slice tC.As tC.s.cols.length tC.cs, .int .i64 tC.s.next, .int .i64 tC.sid, .slice tC.Af tC.fs.length tC.cf, .slice tC.Ar tC.rs.length tC.cr] 30) := ⟨_, rfl⟩
  have SX7 : Step w5 X7 := by rw [hX7]; exact Step.of
  have HTC : Hid (Blk X7 w5.heap.size 30 [.int .i64 tC.s.id, .slice tC.As tC.s.cols.length tC.cs, .int .i64 tC.s.next, .int .i64 tC.sid, .slice tC.Af tC.fs.length tC.cf, .slice tC.Ar tC.rs.length tC.cr]) := by rw [hX7]; exact Blk.new w5 _ 30
  have HO3F : Hid (TbOwnR X7 _ tC) := HO3.out.fut
  rw [← hX7]
  clear hX7
  have HTIC : Hid (TbIn X7 tC) := tb_in HO3F.out (by rw [HT3.out]; exact may2 HK3.out HYL.out)
  have HFC : Hid (∀ vs ∈ tC.tb.rows, ∀ v ∈ vs, FineD v) := by show ∀ vs ∈ tC.tb.rows, ∀ v ∈ vs, FineD v; rw [HT3.out]; exact fine_add (fine_row2 HYR.out)
  have RR1 : Hid (∀ {wa : World} {b : Nat}, Blk wa b 9 [.string ⟨#[97]⟩] → ∀ (w' : World) [Fut X5 w'] [Fut wa w'], Calls Tryz.prog 32 #[.agg #[.int .i64 tB.s.id, .slice tB.As tB.s.cols.length tB.cs, .int .i64 tB.s.next, .int .i64 tB.sid, .slice tB.Af tB.fs.length tB.cf, .slice tB.Ar tB.rs.length tB.cr], .agg #[.int .i64 9, .string ⟨#[]⟩, .slice (some ⟨b, 0, none⟩) 1 1, .slice none 0 0, .slice none 0 0, .string ⟨#[]⟩, .string ⟨#[]⟩, .int .i64 0, .int .i64 0, .int .i64 0, .bool false, .string ⟨#[]⟩, .slice none 0 0, .int .i64 0, .int .i64 0, .int .i64 0]] w' fun e w'' => ReadOut w' (.ok ([⟨#[97]⟩], beforeR ys)) e w'' ∧ Step w' w'') := by
    intro wa b hb w' _ _
    have := readRows (w0 := X5) (w1 := wa) tB ⟨9, ⟨#[]⟩, [⟨#[97]⟩], (some ⟨b, 0, none⟩), 1, [], none, 0, [], none, 0, ⟨#[]⟩, ⟨#[]⟩, 0, no25, [], none, 0, 0, 0, 0⟩ w' HTIB.out ⟨one_str hb, by show 1 ≤ _; decide, by show 1 ≤ 1; decide, RowsIn.none_ _, fun r h => by simp at h, PrIn.none_ _, FsIn.none_ _, Nat.zero_le _, FineD.zero, (by show 0 ≤ 9223372036854775807; decide)⟩ rfl (by show 1 ≤ _; decide) HFB.out
    rw [HT2.out] at this
    rw [show readR _ (OpA.op ⟨9, ⟨#[]⟩, [⟨#[97]⟩], (some ⟨b, 0, none⟩), 1, [], none, 0, [], none, 0, ⟨#[]⟩, ⟨#[]⟩, 0, no25, [], none, 0, 0, 0, 0⟩) = _ from cbefore HK3.out HYL.out] at this
    exact this
  obtain ⟨t0, t1, t2, t3, t4, t5⟩ := At.z6 (HTB.out.fut (w' := X7)).at0
  have lt := (HTB.out.fut (w' := X7)).lt
  go_upto_region 9 with (go_at_call 32; (with_reducible refine (RR1.out (Blk.new _ _ _) _).mono ?_); rintro e w6 ⟨⟨An1, cn1, os1, Ar1, cr1, hro1, rfl⟩, hsw6⟩; have HRO1 := hide hro1; clear hro1)
  clear t0 t1 t2 t3 t4 t5 lt
  obtain ⟨X8, hX8⟩ : ∃ x : World, x = w6.alloc (.cells #[.int .i64 0, .slice An1 1 cn1, .slice Ar1 os1.length cr1, .int .i64 0, .int .i64 0, .bool false, .string ⟨#[]⟩] 59) := ⟨_, rfl⟩
  have SX8 : Step w6 X8 := by rw [hX8]; exact Step.of
  have HBE : Hid (Blk X8 w6.heap.size 59 [.int .i64 0, .slice An1 1 cn1, .slice Ar1 os1.length cr1, .int .i64 0, .int .i64 0, .bool false, .string ⟨#[]⟩]) := by rw [hX8]; exact Blk.new w6 _ 59
  rw [← hX8]
  clear hX8
  have RR2 : Hid (∀ {wa : World} {b : Nat}, Blk wa b 9 [.string ⟨#[122]⟩] → ∀ (w' : World) [Fut X7 w'] [Fut wa w'], Calls Tryz.prog 32 #[.agg #[.int .i64 tC.s.id, .slice tC.As tC.s.cols.length tC.cs, .int .i64 tC.s.next, .int .i64 tC.sid, .slice tC.Af tC.fs.length tC.cf, .slice tC.Ar tC.rs.length tC.cr], .agg #[.int .i64 9, .string ⟨#[]⟩, .slice (some ⟨b, 0, none⟩) 1 1, .slice none 0 0, .slice none 0 0, .string ⟨#[]⟩, .string ⟨#[]⟩, .int .i64 0, .int .i64 0, .int .i64 0, .bool false, .string ⟨#[]⟩, .slice none 0 0, .int .i64 0, .int .i64 0, .int .i64 0]] w' fun e w'' => ReadOut w' (.ok ([⟨#[122]⟩], beforeR ys)) e w'' ∧ Step w' w'') := by
    intro wa b hb w' _ _
    have := readRows (w0 := X7) (w1 := wa) tC ⟨9, ⟨#[]⟩, [⟨#[122]⟩], (some ⟨b, 0, none⟩), 1, [], none, 0, [], none, 0, ⟨#[]⟩, ⟨#[]⟩, 0, no25, [], none, 0, 0, 0, 0⟩ w' HTIC.out ⟨one_str hb, by show 1 ≤ _; decide, by show 1 ≤ 1; decide, RowsIn.none_ _, fun r h => by simp at h, PrIn.none_ _, FsIn.none_ _, Nat.zero_le _, FineD.zero, (by show 0 ≤ 9223372036854775807; decide)⟩ rfl (by show 1 ≤ _; decide) HFC.out
    rw [HT3.out] at this
    rw [show readR _ (OpA.op ⟨9, ⟨#[]⟩, [⟨#[122]⟩], (some ⟨b, 0, none⟩), 1, [], none, 0, [], none, 0, ⟨#[]⟩, ⟨#[]⟩, 0, no25, [], none, 0, 0, 0, 0⟩) = _ from cafter HK3.out HYL.out] at this
    exact this
  obtain ⟨t0, t1, t2, t3, t4, t5⟩ := At.z6 (HTC.out.fut (w' := X8)).at0
  have lt := (HTC.out.fut (w' := X8)).lt
  go_upto_region 10 with (go_at_call 32; (with_reducible refine (RR2.out (Blk.new _ _ _) _).mono ?_); rintro e w7 ⟨⟨An2, cn2, os2, Ar2, cr2, hro2, rfl⟩, hsw7⟩; have HRO2 := hide hro2; clear hro2)
  clear t0 t1 t2 t3 t4 t5 lt
  obtain ⟨X9, hX9⟩ : ∃ x : World, x = w7.alloc (.cells #[.int .i64 0, .slice An2 1 cn2, .slice Ar2 os2.length cr2, .int .i64 0, .int .i64 0, .bool false, .string ⟨#[]⟩] 59) := ⟨_, rfl⟩
  have SX9 : Step w7 X9 := by rw [hX9]; exact Step.of
  have HAF : Hid (Blk X9 w7.heap.size 59 [.int .i64 0, .slice An2 1 cn2, .slice Ar2 os2.length cr2, .int .i64 0, .int .i64 0, .bool false, .string ⟨#[]⟩]) := by rw [hX9]; exact Blk.new w7 _ 59
  rw [← hX9]
  clear hX9
  have AP3 : Hid (∀ (w' : World) [Fut X7 w'], Calls Tryz.prog 13 #[.agg #[.int .i64 tC.s.id, .slice tC.As tC.s.cols.length tC.cs, .int .i64 tC.s.next, .int .i64 tC.sid, .slice tC.Af tC.fs.length tC.cf, .slice tC.Ar tC.rs.length tC.cr], .agg #[.int .i64 5, .string ⟨#[]⟩, .slice none 0 0, .slice none 0 0, .slice none 0 0, .string ⟨#[122]⟩, .string ⟨#[]⟩, .int .i64 0, .int .i64 0, .int .i64 0, .bool false, .string ⟨#[]⟩, .slice none 0 0, .int .i64 0, .int .i64 0, .int .i64 0]] w' (ApplyR w' (tc3 k ys, 0))) := by
    intro w' _
    have := apply_cols (w0 := X7) (w1 := X7) tC ⟨5, ⟨#[]⟩, [], none, 0, [], none, 0, [], none, 0, ⟨#[122]⟩, ⟨#[]⟩, 0, no25, [], none, 0, 0, 0, 0⟩ w' HTIC.out ⟨SlAt.nil_, by show 0 ≤ _; decide, by show 0 ≤ 0; decide, RowsIn.none_ _, fun r h => by simp at h, PrIn.none_ _, FsIn.none_ _, Nat.zero_le _, FineD.zero, (by show 0 ≤ 9223372036854775807; decide)⟩ (by first | exact .inl rfl | exact .inr (.inl rfl) | exact .inr (.inr rfl))
    rw [HT3.out] at this
    rw [show applyP _ (OpA.op ⟨5, ⟨#[]⟩, [], none, 0, [], none, 0, [], none, 0, ⟨#[122]⟩, ⟨#[]⟩, 0, no25, [], none, 0, 0, 0, 0⟩) = _ from cstep3 HK3.out HYL.out] at this
    exact this
  obtain ⟨t0, t1, t2, t3, t4, t5⟩ := At.z6 (HTC.out.fut (w' := X9)).at0
  have lt := (HTC.out.fut (w' := X9)).lt
  go_upto_region 11 with (go_at_call 13; (with_reducible refine (AP3.out _).mono ?_); rintro e w8 ⟨tD, rfl, HT4_, HO4_, hsw8⟩; have HT4 := hide HT4_; have HO4 := hide HO4_; clear HT4_ HO4_)
  clear t0 t1 t2 t3 t4 t5 lt
  obtain ⟨X10, hX10⟩ : ∃ x : World, x = w8.alloc (.cells #[.int .i64 tD.s.id, .slice tD.As tD.s.cols.length tD.cs, .int .i64 tD.s.next, .int .i64 tD.sid, .slice tD.Af tD.fs.length tD.cf, .slice tD.Ar tD.rs.length tD.cr] 30) := ⟨_, rfl⟩
  have SX10 : Step w8 X10 := by rw [hX10]; exact Step.of
  have HTD : Hid (Blk X10 w8.heap.size 30 [.int .i64 tD.s.id, .slice tD.As tD.s.cols.length tD.cs, .int .i64 tD.s.next, .int .i64 tD.sid, .slice tD.Af tD.fs.length tD.cf, .slice tD.Ar tD.rs.length tD.cr]) := by rw [hX10]; exact Blk.new w8 _ 30
  have HO4F : Hid (TbOwnR X10 _ tD) := HO4.out.fut
  rw [← hX10]
  clear hX10
  have HTID : Hid (TbIn X10 tD) := tb_in HO4F.out (by rw [HT4.out]; exact may3 HK3.out HYL.out)
  have HFD : Hid (∀ vs ∈ tD.tb.rows, ∀ v ∈ vs, FineD v) := by show ∀ vs ∈ tD.tb.rows, ∀ v ∈ vs, FineD v; rw [HT4.out]; exact fine_drop (fine_add (fine_row2 HYR.out))
  have RR3 : Hid (∀ {wa : World} {b : Nat}, Blk wa b 9 [.string ⟨#[122]⟩] → ∀ (w' : World) [Fut X10 w'] [Fut wa w'], Calls Tryz.prog 32 #[.agg #[.int .i64 tD.s.id, .slice tD.As tD.s.cols.length tD.cs, .int .i64 tD.s.next, .int .i64 tD.sid, .slice tD.Af tD.fs.length tD.cf, .slice tD.Ar tD.rs.length tD.cr], .agg #[.int .i64 9, .string ⟨#[]⟩, .slice (some ⟨b, 0, none⟩) 1 1, .slice none 0 0, .slice none 0 0, .string ⟨#[]⟩, .string ⟨#[]⟩, .int .i64 0, .int .i64 0, .int .i64 0, .bool false, .string ⟨#[]⟩, .slice none 0 0, .int .i64 0, .int .i64 0, .int .i64 0]] w' fun e w'' => e = .returned (.agg #[.int .i64 5, .slice none 0 0, .slice none 0 0, .int .i64 0, .int .i64 0, .bool false, .string ⟨#[]⟩]) ∧ Step w' w'') := by
    intro wa b hb w' _ _
    have := readRows (w0 := X10) (w1 := wa) tD ⟨9, ⟨#[]⟩, [⟨#[122]⟩], (some ⟨b, 0, none⟩), 1, [], none, 0, [], none, 0, ⟨#[]⟩, ⟨#[]⟩, 0, no25, [], none, 0, 0, 0, 0⟩ w' HTID.out ⟨one_str hb, by show 1 ≤ _; decide, by show 1 ≤ 1; decide, RowsIn.none_ _, fun r h => by simp at h, PrIn.none_ _, FsIn.none_ _, Nat.zero_le _, FineD.zero, (by show 0 ≤ 9223372036854775807; decide)⟩ rfl (by show 1 ≤ _; decide) HFD.out
    rw [HT4.out] at this
    rw [show readR _ (OpA.op ⟨9, ⟨#[]⟩, [⟨#[122]⟩], (some ⟨b, 0, none⟩), 1, [], none, 0, [], none, 0, ⟨#[]⟩, ⟨#[]⟩, 0, no25, [], none, 0, 0, 0, 0⟩) = _ from cgone HK3.out HYL.out] at this
    exact this
  obtain ⟨t0, t1, t2, t3, t4, t5⟩ := At.z6 (HTD.out.fut (w' := X10)).at0
  have lt := (HTD.out.fut (w' := X10)).lt
  go_upto_region 12 with (go_at_call 32; (with_reducible refine (RR3.out (Blk.new _ _ _) _).mono ?_); rintro e w9 ⟨rfl, hsw9⟩)
  clear t0 t1 t2 t3 t4 t5 lt
  obtain ⟨X11, hX11⟩ : ∃ x : World, x = w9.alloc (.cells #[.int .i64 5, .slice none 0 0, .slice none 0 0, .int .i64 0, .int .i64 0, .bool false, .string ⟨#[]⟩] 59) := ⟨_, rfl⟩
  have SX11 : Step w9 X11 := by rw [hX11]; exact Step.of
  have HGO : Hid (Blk X11 w9.heap.size 59 [.int .i64 5, .slice none 0 0, .slice none 0 0, .int .i64 0, .int .i64 0, .bool false, .string ⟨#[]⟩]) := by rw [hX11]; exact Blk.new w9 _ 59
  rw [← hX11]
  clear hX11
  have AP4 : Hid (∀ (w' : World) [Fut X10 w'], Calls Tryz.prog 13 #[.agg #[.int .i64 tD.s.id, .slice tD.As tD.s.cols.length tD.cs, .int .i64 tD.s.next, .int .i64 tD.sid, .slice tD.Af tD.fs.length tD.cf, .slice tD.Ar tD.rs.length tD.cr], .agg #[.int .i64 4, .string ⟨#[]⟩, .slice none 0 0, .slice none 0 0, .slice none 0 0, .string ⟨#[]⟩, .string ⟨#[122]⟩, .int .i64 1, .int .i64 0, .int .i64 0, .bool false, .string ⟨#[]⟩, .slice none 0 0, .int .i64 0, .int .i64 0, .int .i64 0]] w' (ApplyR w' (tc4 k ys, 0))) := by
    intro w' _
    have := apply_cols (w0 := X10) (w1 := X10) tD ⟨4, ⟨#[]⟩, [], none, 0, [], none, 0, [], none, 0, ⟨#[]⟩, ⟨#[122]⟩, 1, no25, [], none, 0, 0, 0, 0⟩ w' HTID.out ⟨SlAt.nil_, by show 0 ≤ _; decide, by show 0 ≤ 0; decide, RowsIn.none_ _, fun r h => by simp at h, PrIn.none_ _, FsIn.none_ _, Nat.zero_le _, FineD.zero, (by show 1 ≤ 9223372036854775807; decide)⟩ (by first | exact .inl rfl | exact .inr (.inl rfl) | exact .inr (.inr rfl))
    rw [HT4.out] at this
    rw [show applyP _ (OpA.op ⟨4, ⟨#[]⟩, [], none, 0, [], none, 0, [], none, 0, ⟨#[]⟩, ⟨#[122]⟩, 1, no25, [], none, 0, 0, 0, 0⟩) = _ from cstep4 HK3.out HYL.out] at this
    exact this
  obtain ⟨t0, t1, t2, t3, t4, t5⟩ := At.z6 (HTD.out.fut (w' := X11)).at0
  have lt := (HTD.out.fut (w' := X11)).lt
  go_upto_region 13 with (go_at_call 13; (with_reducible refine (AP4.out _).mono ?_); rintro e w10 ⟨tE, rfl, HT5_, HO5_, hsw10⟩; have HT5 := hide HT5_; have HO5 := hide HO5_; clear HT5_ HO5_)
  clear t0 t1 t2 t3 t4 t5 lt
  obtain ⟨X12, hX12⟩ : ∃ x : World, x = w10.alloc (.cells #[.int .i64 tE.s.id, .slice tE.As tE.s.cols.length tE.cs, .int .i64 tE.s.next, .int .i64 tE.sid, .slice tE.Af tE.fs.length tE.cf, .slice tE.Ar tE.rs.length tE.cr] 30) := ⟨_, rfl⟩
  have SX12 : Step w10 X12 := by rw [hX12]; exact Step.of
  have HTE : Hid (Blk X12 w10.heap.size 30 [.int .i64 tE.s.id, .slice tE.As tE.s.cols.length tE.cs, .int .i64 tE.s.next, .int .i64 tE.sid, .slice tE.Af tE.fs.length tE.cf, .slice tE.Ar tE.rs.length tE.cr]) := by rw [hX12]; exact Blk.new w10 _ 30
  have HO5F : Hid (TbOwnR X12 _ tE) := HO5.out.fut
  rw [← hX12]
  clear hX12
  have HTIE : Hid (TbIn X12 tE) := tb_in HO5F.out (by rw [HT5.out]; exact may4 HK3.out HYL.out)
  have HFE : Hid (∀ vs ∈ tE.tb.rows, ∀ v ∈ vs, FineD v) := by show ∀ vs ∈ tE.tb.rows, ∀ v ∈ vs, FineD v; rw [HT5.out]; exact fine_add (fine_drop (fine_add (fine_row2 HYR.out)))
  have RA2 : Hid (∀ (w' : World) [Fut X12 w'], Calls Tryz.prog 32 #[.agg #[.int .i64 tE.s.id, .slice tE.As tE.s.cols.length tE.cs, .int .i64 tE.s.next, .int .i64 tE.sid, .slice tE.Af tE.fs.length tE.cf, .slice tE.Ar tE.rs.length tE.cr], .agg #[.int .i64 9, .string ⟨#[]⟩, .slice none 0 0, .slice none 0 0, .slice none 0 0, .string ⟨#[122]⟩, .string ⟨#[]⟩, .int .i64 0, .int .i64 0, .int .i64 0, .bool false, .string ⟨#[]⟩, .slice none 0 0, .int .i64 0, .int .i64 0, .int .i64 1]] w' fun e w'' => e = .returned (.agg #[.int .i64 0, .slice none 0 0, .slice none 0 0, .int .i64 1, .int .i64 0, .bool false, .string ⟨#[]⟩]) ∧ Step w' w'') := by
    intro w' _
    have := readAgg (w0 := X12) (w1 := X12) tE ⟨9, ⟨#[]⟩, [], none, 0, [], none, 0, [], none, 0, ⟨#[122]⟩, ⟨#[]⟩, 0, no25, [], none, 0, 0, 0, 1⟩ w' HTIE.out ⟨SlAt.nil_, by show 0 ≤ _; decide, by show 0 ≤ 0; decide, RowsIn.none_ _, fun r h => by simp at h, PrIn.none_ _, FsIn.none_ _, Nat.zero_le _, FineD.zero, (by show 0 ≤ 9223372036854775807; decide)⟩ (by show (1 : Int) ≠ 0; decide) HFE.out
    rw [HT5.out] at this
    rw [show readT _ (OpA.op ⟨9, ⟨#[]⟩, [], none, 0, [], none, 0, [], none, 0, ⟨#[122]⟩, ⟨#[]⟩, 0, no25, [], none, 0, 0, 0, 1⟩) = _ from cfresh HK3.out HYL.out] at this
    exact this
  obtain ⟨t0, t1, t2, t3, t4, t5⟩ := At.z6 (HTE.out.fut (w' := X12)).at0
  have lt := (HTE.out.fut (w' := X12)).lt
  go_upto_region 14 with (go_at_call 32; (with_reducible refine (RA2.out _).mono ?_); rintro e w11 ⟨rfl, hsw11⟩)
  clear t0 t1 t2 t3 t4 t5 lt
  obtain ⟨X13, hX13⟩ : ∃ x : World, x = w11.alloc (.cells #[.int .i64 0, .slice none 0 0, .slice none 0 0, .int .i64 1, .int .i64 0, .bool false, .string ⟨#[]⟩] 59) := ⟨_, rfl⟩
  have SX13 : Step w11 X13 := by rw [hX13]; exact Step.of
  have HFR : Hid (Blk X13 w11.heap.size 59 [.int .i64 0, .slice none 0 0, .slice none 0 0, .int .i64 1, .int .i64 0, .bool false, .string ⟨#[]⟩]) := by rw [hX13]; exact Blk.new w11 _ 59
  rw [← hX13]
  clear hX13
  have hle : ((tE.rs.length : Int) == (tA.rs.length : Int)) = true := by
    have h1 := congrArg (fun q => q.rows.length) HT5.out
    have h2 := congrArg (fun q => q.rows.length) HT1.out
    simp only [len4] at h1
    simp only [TbA.tb, tab2, List.length_map] at h1 h2
    rw [beq_iff_eq]; omega
  have HRI1 : Hid (RowsIn X13 os1 Ar1 cr1) := by
    have l1 := rows_len HRO1.out
    have f1 := rows_fine HYR.out HRO1.out
    have hyl := HYL.out
    exact (HRO1.out.rows.rin (by omega) f1).fut
  have HRI2 : Hid (RowsIn X13 os2 Ar2 cr2) := by
    have l2 := rows_len HRO2.out
    have f2 := rows_fine HYR.out HRO2.out
    have hyl := HYL.out
    exact (HRO2.out.rows.rin (by omega) f2).fut
  have SR : Hid (∀ (w' : World), Fut X13 w' → Calls Tryz.prog 17 #[.slice Ar1 os1.length cr1, .slice Ar2 os2.length cr2] w' fun e w'' => e = .returned (.bool true) ∧ Step w' w'') := fun w' hq => sameRows_any (w1 := X13) (w2 := X13) os1 os2 Ar1 Ar2 cr1 cr2 w' HRI1.out HRI2.out (asc_same HRO1.out.asc HRO2.out.asc HRO1.out.perm HRO2.out.perm)
  clear AP1 AP2 AP3 AP4 RA1 RA2 RR1 RR2 RR3 HTIA HTIB HTIC HTID HTIE HO1 HO2 HO3 HO4 HO5 HO2F HO3F HO4F HO5F HT1 HT2 HT3 HT4 HT5 HFB HFC HFD HFE HRO1 HRO2 HK3 HYL HYR HYF FC HTB HTC HTD
  obtain ⟨n0, n1, n2, n3, n4, n5, n6⟩ := At.z7 (HNU.out.fut (w' := X13)).at0
  have ln := (HNU.out.fut (w' := X13)).lt
  obtain ⟨b0, b1, b2, b3, b4, b5, b6⟩ := At.z7 (HBE.out.fut (w' := X13)).at0
  have lb := (HBE.out.fut (w' := X13)).lt
  obtain ⟨a0, a1, a2, a3, a4, a5, a6⟩ := At.z7 (HAF.out.fut (w' := X13)).at0
  have la := (HAF.out.fut (w' := X13)).lt
  obtain ⟨g0, g1, g2, g3, g4, g5, g6⟩ := At.z7 (HGO.out.fut (w' := X13)).at0
  have lg := (HGO.out.fut (w' := X13)).lt
  obtain ⟨f0, f1, f2, f3, f4, f5, f6⟩ := At.z7 (HFR.out.fut (w' := X13)).at0
  have lf := (HFR.out.fut (w' := X13)).lt
  obtain ⟨y0, y1, y2, y3, y4, y5⟩ := At.z6 (HTE.out.fut (w' := X13)).at0
  have ly := (HTE.out.fut (w' := X13)).lt
  obtain ⟨t0, t1, t2, t3, t4, t5⟩ := At.z6 (HTA.out.fut (w' := X13)).at0
  have lt := (HTA.out.fut (w' := X13)).lt
  go_wp2_with (go_at_call 17; (with_reducible refine (SR.out _ inferInstance).mono ?_); rintro e w12 ⟨rfl, hs12⟩; clear n0 n1 n2 n3 n4 n5 n6 b0 b1 b2 b3 b4 b5 b6 a0 a1 a2 a3 a4 a5 a6 g0 g1 g2 g3 g4 g5 g6 f0 f1 f2 f3 f4 f5 f6 y0 y1 y2 y3 y4 y5 t0 t1 t2 t3 t4 t5 ln lb la lg lf ly lt; obtain ⟨n0, n1, n2, n3, n4, n5, n6⟩ := At.z7 (HNU.out.fut (w' := w12)).at0; have ln := (HNU.out.fut (w' := w12)).lt; obtain ⟨b0, b1, b2, b3, b4, b5, b6⟩ := At.z7 (HBE.out.fut (w' := w12)).at0; have lb := (HBE.out.fut (w' := w12)).lt; obtain ⟨a0, a1, a2, a3, a4, a5, a6⟩ := At.z7 (HAF.out.fut (w' := w12)).at0; have la := (HAF.out.fut (w' := w12)).lt; obtain ⟨g0, g1, g2, g3, g4, g5, g6⟩ := At.z7 (HGO.out.fut (w' := w12)).at0; have lg := (HGO.out.fut (w' := w12)).lt; obtain ⟨f0, f1, f2, f3, f4, f5, f6⟩ := At.z7 (HFR.out.fut (w' := w12)).at0; have lf := (HFR.out.fut (w' := w12)).lt; obtain ⟨y0, y1, y2, y3, y4, y5⟩ := At.z6 (HTE.out.fut (w' := w12)).at0; have ly := (HTE.out.fut (w' := w12)).lt; obtain ⟨t0, t1, t2, t3, t4, t5⟩ := At.z6 (HTA.out.fut (w' := w12)).at0; have lt := (HTA.out.fut (w' := w12)).lt)
  go_ret
  exact ⟨rfl, Step.of⟩
end Go.Proofs.YtnphokhehacfnaaGreatDoor

