/-
  Sums: the program's table and sum, the document's sum.
-/
import Derived.Test.YtfojdjmeefglcaaDoorZc
import Derived.Test.YtfojdjmeefglcaaDoorBase
import Derived.Laws.Rows
namespace Go.Proofs.YtfojdjmeefglcaaDoor
open Go.RowKit

section
variable {P : Program}
/-- A whole array stored into a variable. -/
theorem wp_store_row {o : Oper} {a : Act} {w : World} {K : Act → World → Prop} {Q : Exit → Act → World → Prop} (ty : TypeId) (x y : Operand) (ho : o.op = .store ty x y) (hd : o.dst = none)
    (g : Nat) (hx : a.eval x = .pointer (some ⟨g, 0, none⟩)) (t : TypeId) (cs old : Array Value) (hy : a.eval y = .agg cs) (hg : w.heap[g]? = some (.cells old t (0, 0))) (hs : cs.size = old.size)
    (h1 : ∀ v ∈ cs.toList, v.oneCell' = true) (hi : (P.info? ty).map (·.size) = some cs.size) (h : K a (w.setRow g cs)) : o.wp P a w K Q := by
  have hrun : (storeVar ty ⟨g, 0, none⟩ (.agg cs)).run P w = .ok () (w.setRow g cs) := by
    cases hq : P.info? ty with
    | none => simp [hq] at hi
    | some i =>
      have hsz : i.size = cs.size := by simpa [hq] using hi
      have := run_storeCells_at P g 0 t cs.toList 0 old w hg (by simp; omega) h1
      simp at this
      rw [show old.toList.drop cs.size = [] by apply List.drop_of_length_le; simp; omega] at this
      simp at this
      simp [storeVar, Value.cells, sizeOf, typeInfo, hq, hsz, this]
  unfold Oper.wp execOp
  simp only [ho, hx, hy, Instr.storeAt, Instr.sureAddr, Sem.run_bind, Sem.run_pure, Result.andThen_ok, hrun]
  simpa [Oper.upon, hd, Act.put] using h
theorem wpList_store_row {ops : Array Oper} {rest : List Oper} {o : Oper} {a : Act} {w : World} {Q : Exit → Act → World → Prop} (hgd : o.guard = none) (ty : TypeId) (x y : Operand) (ho : o.op = .store ty x y) (hd : o.dst = none)
    (g : Nat) (hx : a.eval x = .pointer (some ⟨g, 0, none⟩)) (t : TypeId) (cs old : Array Value) (hy : a.eval y = .agg cs) (hg : w.heap[g]? = some (.cells old t (0, 0))) (hs : cs.size = old.size)
    (h1 : ∀ v ∈ cs.toList, v.oneCell' = true) (hi : (P.info? ty).map (·.size) = some cs.size) (h : wpList P ops Q rest a (w.setRow g cs)) : wpList P ops Q (o :: rest) a w :=
  wpList_plain hgd fun _ hK => wp_store_row ty x y ho hd g hx t cs old hy hg hs h1 hi (hK _ _ h)
end
def tabF (i : Nat) : Value := .int .u32 (stepsC 8 i : Nat)
def tabL : List Value := (List.range 256).map tabF
theorem bit1 {y : Nat} (h : y < 4294967296) : bits .and .u32 (y : Int) 1 = ((y % 2 : Nat) : Int) := by
  have := u32_and_nat y 1 h (by omega)
  rw [nat_mask1] at this
  exact this
theorem zero_at {k : Nat} (h : k < 256) : ((List.range k).map tabF ++ List.replicate (256 - k) (Value.int .u32 0))[k]? = some (.int .u32 0) := by
  rw [List.getElem?_append_right (by simp), List.getElem?_replicate, if_pos (by simp; omega)]
theorem tab_one : ∀ v ∈ (tabL.toArray).toList, v.oneCell' = true := fun v hv => by
  simp [tabL] at hv
  obtain ⟨i, _, rfl⟩ := hv
  rfl
set_option maxRecDepth 100000 in
set_option maxHeartbeats 4000000 in
theorem table_any (w : World) : Calls Tryd.prog 110 #[] w fun e w' => e = .returned (.agg tabL.toArray) ∧ Step w w' := by
  go_enter Tryd.func110, Tryd.ntmps110
  go_wp2_with fail
  have hz : (Tryd.zeroCells138 : Array Value) = (List.replicate 256 (Value.int .u32 0)).toArray := by kernel_rfl
  have HB1 : Hid (Blk ((w.alloc (.cells Tryd.zeroCells138 138)).alloc (.cells Tryd.zeroCells138 138)) (w.heap.size + 1) 138 (List.replicate 256 (.int .u32 0))) := by rw [hz]; exact Blk.new_at (by simp) _ 138
  have HB0 : Hid (Blk ((w.alloc (.cells Tryd.zeroCells138 138)).alloc (.cells Tryd.zeroCells138 138)) w.heap.size 138 (List.replicate 256 (.int .u32 0))) := by rw [hz]; exact (Blk.new w _ 138).alloc _
  clear hz
  obtain ⟨W, hW⟩ : ∃ x : World, x = (w.alloc (.cells Tryd.zeroCells138 138)).alloc (.cells Tryd.zeroCells138 138) := ⟨_, rfl⟩
  have SW : Step w W := by rw [hW]; exact Step.of
  rw [← hW] at HB1 HB0
  rw [← hW]
  clear hW
  go_loopw [2, 3, 4] (fun _ _ i wr => ∃ k : Nat, k ≤ 256 ∧ i = .int .i64 k ∧ Blk wr (w.heap.size + 1) 138 ((List.range k).map tabF ++ List.replicate (256 - k) (.int .u32 0)) ∧ Blk wr w.heap.size 138 (List.replicate 256 (.int .u32 0)) ∧ Step w wr) (fun _ _ i _ => 256 - (intOf i).toNat)
  case atStart => exact ⟨0, by omega, rfl, HB1.out, HB0.out, SW⟩
  case round =>
    clear HB1 HB0 SW
    obtain ⟨k, hk, rfl, hb1, hb0, hst⟩ := hrel
    have HB1 := hide hb1; have HB0 := hide hb0
    clear hb1 hb0
    obtain ⟨wo, hwo⟩ : ∃ x : World, x = wr := ⟨_, rfl⟩
    rw [← hwo] at HB1 HB0 hst
    rw [← hwo]
    clear hwo
    have hzo := hst.size
    by_cases hlt : k < 256
    · have hkl : (k : Int) < 256 := by omega
      have hk0 : (0 : Int) ≤ (k : Int) := by omega
      go_wp2_with fail
      go_loopw [3, 9] (fun x i wr => ∃ j y : Nat, j ≤ 8 ∧ i = .int .i64 j ∧ x = .int .u32 y ∧ Hid (y = stepsC j k) ∧ y < 4294967296 ∧ wr = wo) (fun _ i _ => 8 - (intOf i).toNat)
      case atStart => exact ⟨0, k, by omega, rfl, by go_num, rfl, by omega, rfl⟩
      case round =>
        obtain ⟨j, y, hj, rfl, rfl, HY, hy, rfl⟩ := hrel
        by_cases hlj : j < 8
        · have hjl : (j : Int) < 8 := by omega
          have HS : Hid (stepC y = stepsC (j + 1) k) := by show _ = _; rw [HY.out]; rfl
          rcases Nat.mod_two_eq_zero_or_one y with hm | hm
          · have hb : (bits .and .u32 (y : Int) 1 == 1) = false := by rw [bit1 hy, hm]; rfl
            have hy2 : stepC y = y / 2 := by rw [stepC, if_neg (by omega)]
            rw [hy2] at HS
            clear hy2 hm
            go_wp2_with fail
            go_roundw
            case rel => exact ⟨j + 1, y / 2, by omega, by go_num, by go_num, HS.out, by omega, by first | rfl | trivial⟩
            case measure => simp [intOf]; omega
          · have hb : (bits .and .u32 (y : Int) 1 == 1) = true := by rw [bit1 hy, hm]; rfl
            have hy2 : stepC y = (y / 2) ^^^ 3988292384 := by rw [stepC, if_pos hm]
            have hx : bits .xor .u32 ((y : Int) / 2) 3988292384 = ((stepC y : Nat) : Int) := by rw [hy2]; exact u32_xor_nat (y / 2) 3988292384 (by omega) (by omega)
            have hlt2 := stepC_lt hy
            clear hy2 hm
            generalize stepC y = z at HS hx hlt2
            go_wp2_with fail
            go_roundw
            case rel => exact ⟨j + 1, z, by omega, by go_num, rfl, HS.out, hlt2, by first | rfl | trivial⟩
            case measure => simp [intOf]; omega
        · obtain rfl : j = 8 := by omega
          have p1 := HB1.out.free; have lp := HB1.out.lt
          have c0 : wr.cell? ⟨w.heap.size + 1, k, none⟩ = some (.int .u32 0) := by
            have := HB1.out.at0 k (.int .u32 0) (zero_at (by omega))
            simpa using this
          go_wp2_with fail
          go_roundw
          case rel =>
            refine ⟨k + 1, by omega, by go_num, ?_, HB0.out.far (by simp) _, ⟨hst.below.setCell (by simp) _⟩⟩
            have h1 := HB1.out.set_ k (.int .u32 (y : Int))
            rw [HY.out] at h1 ⊢
            have e : ((List.range k).map tabF ++ List.replicate (256 - k) (Value.int .u32 0)).set k (tabF k) = (List.range (k + 1)).map tabF ++ List.replicate (256 - (k + 1)) (.int .u32 0) := by
              rw [List.set_append, if_neg (by simp), List.length_map, List.length_range, Nat.sub_self, List.range_succ, List.map_append, show 256 - k = (256 - (k + 1)) + 1 by omega, List.replicate_succ, List.set_cons_zero]
              simp
            rw [← e]
            exact h1
          case measure => simp [intOf]; omega
    · obtain rfl : k = 256 := by omega
      rw [show List.replicate (256 - 256) (Value.int .u32 0) = [] from rfl, List.append_nil] at HB1
      have h1 : ((List.range 256).map tabF).length = 256 := by simp
      have HB1 : Hid (wo.heap[w.heap.size + 1]? = some (.cells tabL.toArray 138 (0, 0))) := HB1.out
      have hb0 := HB0.out
      have h2 : (tabL.toArray).size = 256 := by simp [tabL]
      go_wp2_with (first
        | (refine wpList_load_row rfl 138 (.tmp 1) rfl (w.heap.size + 1) rfl 138 tabL.toArray (0, 0) _ HB1.out Tryd.underlying138 rfl (by rw [h2]; kernel_rfl) ?_)
        | (refine wpList_store_row rfl 138 (.tmp 0) (.tmp 24) rfl rfl w.heap.size rfl 138 tabL.toArray (List.replicate 256 (Value.int .u32 0)).toArray rfl HB0.out (by rw [h2]; simp) tab_one (by rw [h2]; kernel_rfl) ?_))
      refine bodyPost_ret (v := .agg tabL.toArray) (results_cell_row (ty := 138) (p := 0) rfl _ _ w.heap.size 138 tabL.toArray (0, 0) _ rfl (setRow_heap wo w.heap.size _ _ 138 _ HB0.out) Tryd.underlying138 rfl (by rw [h2]; kernel_rfl)) rfl ⟨rfl, ⟨?_⟩⟩
      exact hst.below.trans ((Below.refl w.heap.size wo).grown (grown_setRow wo w.heap.size _) hst.size (fun k hk => by simp at hk; omega))

set_option maxRecDepth 100000 in
set_option maxHeartbeats 4000000 in
theorem crcOf_any (s : ByteArray) (w : World) (hs : s.size ≤ 9223372036854775807) : Calls Tryd.prog 83 #[.string s] w fun e w' => e = .returned (.int .i64 (crcT s : Nat)) ∧ Step w w' := by
  have TA := hide table_any
  have hz : (Tryd.zeroCells138 : Array Value) = (List.replicate 256 (Value.int .u32 0)).toArray := by kernel_rfl
  have h2 : (tabL.toArray).size = 256 := by simp [tabL]
  have HZ := hide hz; have H2 := hide h2
  clear hz h2
  go_enter Tryd.func83, Tryd.ntmps83
  go_wp2_with (first
    | (go_at_call 110; refine (TA.out _).mono ?_; rintro e w1 ⟨rfl, hs1⟩; have HB0 : Hid (Blk (w1.alloc (.cells Tryd.zeroCells138 138)) w1.heap.size 138 (List.replicate 256 (.int .u32 0))) := (by rw [HZ.out]; exact Blk.new w1 _ 138))
    | (refine wpList_store_row rfl 138 (.tmp 3) (.tmp 6) rfl rfl w1.heap.size rfl 138 tabL.toArray (List.replicate 256 (Value.int .u32 0)).toArray rfl HB0.out (by rw [H2.out]; simp) tab_one (by rw [H2.out]; kernel_rfl) ?_; have HB1 := hide (setRow_heap (w1.alloc (.cells Tryd.zeroCells138 138)) w1.heap.size _ tabL.toArray 138 _ HB0.out); have SB1 : Step w1 ((w1.alloc (.cells Tryd.zeroCells138 138)).setRow w1.heap.size tabL.toArray) := ⟨(fut w1 (w1.alloc (.cells Tryd.zeroCells138 138))).trans ((Below.refl _ _).grown (grown_setRow _ w1.heap.size _) (by simp) (fun k hk => by simp at hk; omega))⟩; obtain ⟨W, hW⟩ : ∃ x : World, x = (w1.alloc (.cells Tryd.zeroCells138 138)).setRow w1.heap.size tabL.toArray := ⟨_, rfl⟩; rw [← hW] at HB1 SB1; rw [← hW]; clear hW))
  have HBW : Hid (Blk W w1.heap.size 138 tabL) := HB1.out
  have lg := HBW.out.lt
  go_loop [4, 5, 9] (fun x _ i => ∃ k y : Nat, k ≤ s.size ∧ i = .int .i64 k ∧ x = .int .u32 y ∧ Hid (y = sumC 4294967295 (s.data.toList.take k)) ∧ y < 4294967296) (fun _ _ i => s.size - (intOf i).toNat)
  case atStart => exact ⟨0, 4294967295, Nat.zero_le _, rfl, rfl, rfl, by omega⟩
  case round =>
    obtain ⟨k, y, hk, rfl, rfl, HY, hy⟩ := hrel
    by_cases hlt : k < s.size
    · have hkl : (k : Int) < (s.size : Int) := by omega
      have hk0 : (0 : Int) ≤ (k : Int) := by omega
      have hc := s[k].toNat_lt
      have HS : Hid (sumC 4294967295 (s.data.toList.take (k + 1)) = stepsC 8 (y ^^^ s[k].toNat)) := by
        show _ = _
        rw [List.take_add_one, List.getElem?_eq_getElem (by simpa using hlt), sumC, List.foldl_append, HY.out]
        rfl
      have HS2 := hide (steps_byte y s[k].toNat hc)
      have q1 : IntKind.u8.wrap (y : Int) = ((y % 256 : Nat) : Int) := by rw [IntKind.wrap_u8']; omega
      obtain ⟨m, hm⟩ : ∃ m, y % 256 = m := ⟨_, rfl⟩
      have hm1 : m < 256 := by omega
      rw [hm] at q1 HS2
      have hi1 : m ^^^ s[k].toNat < 256 := Nat.xor_lt_two_pow (n := 8) (by omega) hc
      have q2 : bits .xor .u8 (m : Int) (s[k].toNat : Int) = ((m ^^^ s[k].toNat : Nat) : Int) := u8_xor_nat m s[k].toNat (by omega) hc
      obtain ⟨i, hi⟩ : ∃ i, m ^^^ s[k].toNat = i := ⟨_, rfl⟩
      rw [hi] at hi1 q2 HS2
      have hz8 := stepsC_lt (x := i) (by omega) 8
      have c0 : W.cell? ⟨w1.heap.size, i, none⟩ = some (.int .u32 (stepsC 8 i : Nat)) := by
        have := HBW.out.at0 i (tabF i) (by simp [tabL, hi1])
        simpa [tabF] using this
      have q3 := u32_xor_nat (y / 256) (stepsC 8 i) (by omega) hz8
      have hnl : (y / 256) ^^^ stepsC 8 i < 4294967296 := Nat.xor_lt_two_pow (n := 32) (by omega) hz8
      rw [← HS2.out] at q3 hnl
      obtain ⟨z, hz⟩ : ∃ z, stepsC 8 (y ^^^ s[k].toNat) = z := ⟨_, rfl⟩
      rw [hz] at q3 hnl HS
      generalize stepsC 8 i = u at c0 q3 hz8
      rw [show ((y / 256 : Nat) : Int) = (y : Int) / 256 by omega] at q3
      have hi0 : (0 : Int) ≤ (i : Int) := by omega
      have hi2 : (i : Int) < 256 := by omega
      clear hm hi hz hi1 hm1 HS2
      go_wp2_with fail
      go_round
      case rel => exact ⟨k + 1, z, by omega, by go_num, rfl, HS.out.symm, hnl⟩
      case measure => simp [intOf]; omega
    · obtain rfl : k = s.size := by omega
      have HE : Hid ((crcT s : Int) = 4294967295 - y) := by
        show _ = _
        rw [crcT, ← show s.data.toList.take s.size = s.data.toList from List.take_of_length_le (by simp), ← HY.out, xor_all hy]
        omega
      go_wp2_with fail
      go_ret
      refine ⟨ret_int ?_, Step.of⟩
      rw [HE.out]
      have e : bits .xor .u32 IntKind.u32.max (y : Int) = ((4294967295 ^^^ y : Nat) : Int) := u32_xor_nat 4294967295 y (by omega) hy
      rw [e, Nat.xor_comm, xor_all hy, wrap64]
      omega
set_option maxRecDepth 100000 in
set_option maxHeartbeats 4000000 in
theorem rcrc_any (s : ByteArray) (w : World) (hs : s.size ≤ 9223372036854775807) : Calls Tryd.prog 88 #[.string s] w fun e w' => e = .returned (.int .i64 (crcT s : Nat)) ∧ Step w w' := by
  obtain ⟨T, hT⟩ : ∃ T, crcT s = T := ⟨_, rfl⟩
  have HT := hide hT
  rw [hT]
  clear hT
  go_enter Tryd.func88, Tryd.ntmps88
  go_wp2
  go_loop [3, 4, 5] (fun x i _ => ∃ k y : Nat, k ≤ s.size ∧ i = .int .i64 k ∧ x = .int .u32 y ∧ Hid (y = sumC 4294967295 (s.data.toList.take k)) ∧ y < 4294967296) (fun _ i _ => s.size - (intOf i).toNat)
  case atStart => exact ⟨0, 4294967295, Nat.zero_le _, rfl, rfl, rfl, by omega⟩
  case round =>
    obtain ⟨k, y, hk, rfl, rfl, HY, hy⟩ := hrel
    by_cases hlt : k < s.size
    · have hkl : (k : Int) < (s.size : Int) := by omega
      have hk0 : (0 : Int) ≤ (k : Int) := by omega
      have hc := s[k].toNat_lt
      have HS : Hid (sumC 4294967295 (s.data.toList.take (k + 1)) = stepsC 8 (y ^^^ s[k].toNat)) := by
        show _ = _
        rw [List.take_add_one, List.getElem?_eq_getElem (by simpa using hlt), sumC, List.foldl_append, HY.out]
        rfl
      have q1 := u32_xor_nat y s[k].toNat hy (by omega)
      have hx0 : y ^^^ s[k].toNat < 4294967296 := Nat.xor_lt_two_pow (n := 32) (by omega) (by omega)
      obtain ⟨v, hv⟩ : ∃ v, y ^^^ s[k].toNat = v := ⟨_, rfl⟩
      rw [hv] at q1 hx0 HS
      clear hv
      go_wp2_with fail
      go_loop [3, 5] (fun x i => ∃ j u : Nat, j ≤ 8 ∧ i = .int .i64 j ∧ x = .int .u32 u ∧ Hid (u = stepsC j v) ∧ u < 4294967296) (fun _ i => 8 - (intOf i).toNat)
      case atStart => exact ⟨0, v, by omega, rfl, rfl, rfl, hx0⟩
      case round =>
        clear q1
        obtain ⟨j, u, hj, rfl, rfl, HU, hu⟩ := hrel
        by_cases hlj : j < 8
        · have hjl : (j : Int) < 8 := by omega
          have HSU : Hid (stepC u = stepsC (j + 1) v) := by show _ = _; rw [HU.out]; rfl
          rcases Nat.mod_two_eq_zero_or_one u with hm | hm
          · have hb : (bits .and .u32 (u : Int) 1 == 1) = false := by rw [bit1 hu, hm]; rfl
            have hu2 : stepC u = u / 2 := by rw [stepC, if_neg (by omega)]
            rw [hu2] at HSU
            clear hu2 hm
            go_wp2_with fail
            go_round
            case rel => exact ⟨j + 1, u / 2, by omega, by go_num, by go_num, HSU.out, by omega⟩
            case measure => simp [intOf]; omega
          · have hb : (bits .and .u32 (u : Int) 1 == 1) = true := by rw [bit1 hu, hm]; rfl
            have hu2 : stepC u = (u / 2) ^^^ 3988292384 := by rw [stepC, if_pos hm]
            have hx : bits .xor .u32 ((u : Int) / 2) 3988292384 = ((stepC u : Nat) : Int) := by rw [hu2]; exact u32_xor_nat (u / 2) 3988292384 (by omega) (by omega)
            have hlt2 := stepC_lt hu
            clear hu2 hm
            generalize stepC u = z at HSU hx hlt2
            go_wp2_with fail
            go_round
            case rel => exact ⟨j + 1, z, by omega, by go_num, rfl, HSU.out, hlt2⟩
            case measure => simp [intOf]; omega
        · obtain rfl : j = 8 := by omega
          go_wp2_with fail
          go_round
          case rel => exact ⟨k + 1, u, by omega, by go_num, rfl, by show _ = _; rw [HS.out, HU.out], hu⟩
          case measure => simp [intOf]; omega
    · obtain rfl : k = s.size := by omega
      have q1 := u32_xor_nat y 4294967295 hy (by omega)
      have hx0 : y ^^^ 4294967295 < 4294967296 := Nat.xor_lt_two_pow (n := 32) (by omega) (by omega)
      have HE : Hid (T = y ^^^ 4294967295) := by
        show _ = _
        rw [← HT.out, crcT, ← show s.data.toList.take s.size = s.data.toList from List.take_of_length_le (by simp), ← HY.out]
      generalize y ^^^ 4294967295 = z at q1 hx0 HE
      have q2 : bits .xor .u32 (y : Int) 4294967295 = (z : Int) := q1
      clear q1
      go_wp2_with fail
      go_ret
      exact ⟨ret_int (by rw [HE.out]), Step.of⟩
end Go.Proofs.YtfojdjmeefglcaaDoor
