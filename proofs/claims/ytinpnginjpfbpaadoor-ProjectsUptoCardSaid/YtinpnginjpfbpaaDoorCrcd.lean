/-
  The document's Crc.
-/
import Derived.Test.YtinpnginjpfbpaaDoorData
import Derived.Laws.BitsAllLaws
import Derived.Test.YtinpnginjpfbpaaDoorBase
import Derived.Laws.Rows
namespace Go.Proofs.YtinpnginjpfbpaaDoor
open Go.RowKit

def stepC (x : Nat) : Nat := if x % 2 = 1 then (x / 2) ^^^ 3988292384 else x / 2
def stepsC : Nat → Nat → Nat
  | 0, x => x
  | k + 1, x => stepC (stepsC k x)
theorem stepC_xor (a b : Nat) : stepC (a ^^^ b) = stepC a ^^^ stepC b := by
  have h1 : (a ^^^ b) / 2 = a / 2 ^^^ b / 2 := by
    apply Nat.eq_of_testBit_eq
    intro i
    simp [Nat.testBit_div_two]
  have h2 : (a ^^^ b) % 2 = (a % 2 + b % 2) % 2 := by
    have e : ∀ x : Nat, x % 2 = (x.testBit 0).toNat := fun x => by
      rw [Nat.testBit_zero]
      rcases Nat.mod_two_eq_zero_or_one x with h | h <;> simp [h]
    rw [e (a ^^^ b), e a, e b, Nat.testBit_xor]
    cases a.testBit 0 <;> cases b.testBit 0 <;> rfl
  unfold stepC
  rw [h1, h2]
  rcases Nat.mod_two_eq_zero_or_one a with ha | ha <;> rcases Nat.mod_two_eq_zero_or_one b with hb | hb <;> simp only [ha, hb]
  · rfl
  · simp [Nat.xor_assoc]
  · simp only [if_true]
    rw [if_neg (by decide), Nat.xor_assoc, Nat.xor_comm (b / 2), ← Nat.xor_assoc]
  · simp only [Nat.reduceAdd, Nat.reduceMod, if_true]
    rw [if_neg (by decide), Nat.xor_assoc, Nat.xor_comm (b / 2), ← Nat.xor_assoc 3988292384, Nat.xor_self, Nat.zero_xor]
theorem stepsC_xor (k a b : Nat) : stepsC k (a ^^^ b) = stepsC k a ^^^ stepsC k b := by
  induction k with
  | zero => rfl
  | succ k ih => simp only [stepsC, ih, stepC_xor]
theorem stepC_two (y : Nat) : stepC (2 * y) = y := by
  unfold stepC
  rw [if_neg (by omega)]
  omega
theorem steps8 (x : Nat) : stepsC 8 x = (x / 256) ^^^ stepsC 8 (x % 256) := by
  have e : x = (256 * (x / 256)) ^^^ (x % 256) := by
    apply Nat.eq_of_testBit_eq
    intro i
    rw [Nat.testBit_xor, show (256 : Nat) = 2 ^ 8 by decide, Nat.testBit_mod_two_pow, Nat.mul_comm, Nat.testBit_mul_two_pow, Nat.testBit_div_two_pow]
    by_cases h : i < 8
    · have h' : ¬ 8 ≤ i := by omega
      simp [h, h']
    · have : 8 ≤ i := by omega
      simp [h, this, Nat.sub_add_cancel this]
  have e8 : stepsC 8 (256 * (x / 256)) = x / 256 := by
    have : 256 * (x / 256) = 2 * (2 * (2 * (2 * (2 * (2 * (2 * (2 * (x / 256)))))))) := by omega
    rw [this]
    simp only [stepsC, stepC_two]
  rw [e, stepsC_xor, e8]
  congr 1
  · rw [← e]
  · rw [← e]
theorem stepC_lt {x : Nat} (h : x < 4294967296) : stepC x < 4294967296 := by
  unfold stepC
  split
  · exact Nat.xor_lt_two_pow (n := 32) (by omega) (by omega)
  · omega
theorem stepsC_lt {x : Nat} (h : x < 4294967296) : ∀ k, stepsC k x < 4294967296
  | 0 => h
  | k + 1 => stepC_lt (stepsC_lt h k)
/-- A byte more. -/
theorem steps_byte (x b : Nat) (hb : b < 256) : stepsC 8 (x ^^^ b) = (x / 256) ^^^ stepsC 8 ((x % 256) ^^^ b) := by
  rw [steps8]
  have e1 : (x ^^^ b) / 256 = x / 256 := by
    apply Nat.eq_of_testBit_eq
    intro i
    rw [show (256 : Nat) = 2 ^ 8 by decide, Nat.testBit_div_two_pow, Nat.testBit_div_two_pow, Nat.testBit_xor, Nat.testBit_lt_two_pow (x := b) (Nat.lt_of_lt_of_le hb (by rw [show (256 : Nat) = 2 ^ 8 by decide]; exact Nat.pow_le_pow_right (by omega) (by omega)))]
    simp
  have e2 : (x ^^^ b) % 256 = (x % 256) ^^^ b := by
    apply Nat.eq_of_testBit_eq
    intro i
    rw [show (256 : Nat) = 2 ^ 8 by decide, Nat.testBit_mod_two_pow, Nat.testBit_xor, Nat.testBit_xor, Nat.testBit_mod_two_pow]
    by_cases h : i < 8
    · simp [h]
    · rw [Nat.testBit_lt_two_pow (x := b) (Nat.lt_of_lt_of_le hb (by rw [show (256 : Nat) = 2 ^ 8 by decide]; exact Nat.pow_le_pow_right (by omega) (by omega)))]
      simp [h]
  rw [e1, e2]
/-- The sum of the bytes behind which it is x. -/
def sumC (x : Nat) (l : List UInt8) : Nat := l.foldl (fun c b => stepsC 8 (c ^^^ b.toNat)) x
def crcT (s : ByteArray) : Nat := sumC 4294967295 s.data.toList ^^^ 4294967295
theorem sumC_lt {x : Nat} (h : x < 4294967296) (l : List UInt8) : sumC x l < 4294967296 := by
  induction l generalizing x with
  | nil => exact h
  | cons b r ih =>
    simp only [sumC, List.foldl_cons]
    have hb := b.toNat_lt
    exact ih (stepsC_lt (Nat.xor_lt_two_pow (n := 32) (by omega) (by omega)) 8)
theorem crcT_lt (s : ByteArray) : crcT s < 4294967296 := Nat.xor_lt_two_pow (n := 32) (sumC_lt (by omega) _) (by omega)
theorem xor_all {x : Nat} (h : x < 4294967296) : x ^^^ 4294967295 = 4294967295 - x := by
  apply Nat.eq_of_testBit_eq
  intro i
  rw [Nat.testBit_xor, show (4294967295 : Nat) = 2 ^ 32 - 1 by decide, Nat.testBit_two_pow_sub_one, show 2 ^ 32 - 1 - x = 2 ^ 32 - (x + 1) by omega, Nat.testBit_two_pow_sub_succ (by omega)]
  by_cases hi : i < 32
  · simp [hi]
  · rw [Nat.testBit_lt_two_pow (x := x) (Nat.lt_of_lt_of_le h (by rw [show (4294967296 : Nat) = 2 ^ 32 by decide]; exact Nat.pow_le_pow_right (by omega) (by omega)))]
    simp [hi]
end Go.Proofs.YtinpnginjpfbpaaDoor
namespace Go.Proofs.YtinpnginjpfbpaaDoor
open Go.RowKit

section
variable {P : Program}
/-- A whole array stored into a variable. -/
theorem wp_store_row {o : Oper} {a : Act} {w : World} {K : Act → World → Prop} {Q : Exit → Act → World → Prop} (ty : TypeId) (x y : Operand) (ho : o.op = .store ty x y) (hd : o.dst = none)
    (g : Nat) (hx : a.eval x = .pointer (some ⟨g, 0, none⟩)) (t : TypeId) (cs old : Array Value) (hy : a.eval y = .agg cs) (hg : w.heap[g]? = some (.cells old t (0, 0))) (hs : cs.size = old.size)
    (h1 : ∀ v ∈ cs.toList, v.oneCell' = true) (hi : (P.info? ty).map (·.size) = some cs.size) (h : K a (w.setRow g cs)) : o.wp P a w K Q := by
  have hrun : (storeVar ty ⟨g, 0, none⟩ (.agg cs)).run P w = .ok () (w.setRow g cs) := by
    cases hq : P.info? ty with
    | none => simp [hq] at hi
    | some i =>
      have hsz : i.size = cs.size := by simpa [hq] using hi
      have := run_storeCells_at P g 0 t cs.toList 0 old w hg (by simp; omega) h1
      simp at this
      rw [show old.toList.drop cs.size = [] by apply List.drop_of_length_le; simp; omega] at this
      simp at this
      simp [storeVar, Value.cells, sizeOf, typeInfo, hq, hsz, this]
  unfold Oper.wp execOp
  simp only [ho, hx, hy, Instr.storeAt, Instr.sureAddr, Sem.run_bind, Sem.run_pure, Result.andThen_ok, hrun]
  simpa [Oper.upon, hd, Act.put] using h
theorem wpList_store_row {ops : Array Oper} {rest : List Oper} {o : Oper} {a : Act} {w : World} {Q : Exit → Act → World → Prop} (hgd : o.guard = none) (ty : TypeId) (x y : Operand) (ho : o.op = .store ty x y) (hd : o.dst = none)
    (g : Nat) (hx : a.eval x = .pointer (some ⟨g, 0, none⟩)) (t : TypeId) (cs old : Array Value) (hy : a.eval y = .agg cs) (hg : w.heap[g]? = some (.cells old t (0, 0))) (hs : cs.size = old.size)
    (h1 : ∀ v ∈ cs.toList, v.oneCell' = true) (hi : (P.info? ty).map (·.size) = some cs.size) (h : wpList P ops Q rest a (w.setRow g cs)) : wpList P ops Q (o :: rest) a w :=
  wpList_plain hgd fun _ hK => wp_store_row ty x y ho hd g hx t cs old hy hg hs h1 hi (hK _ _ h)
end
def tabF (i : Nat) : Value := .int .u32 (stepsC 8 i : Nat)
def tabL : List Value := (List.range 256).map tabF
theorem bit1 {y : Nat} (h : y < 4294967296) : bits .and .u32 (y : Int) 1 = ((y % 2 : Nat) : Int) := by
  have := u32_and_nat y 1 h (by omega)
  rw [nat_mask1] at this
  exact this
theorem zero_at {k : Nat} (h : k < 256) : ((List.range k).map tabF ++ List.replicate (256 - k) (Value.int .u32 0))[k]? = some (.int .u32 0) := by
  rw [List.getElem?_append_right (by simp), List.getElem?_replicate, if_pos (by simp; omega)]
theorem tab_one : ∀ v ∈ (tabL.toArray).toList, v.oneCell' = true := fun v hv => by
  simp [tabL] at hv
  obtain ⟨i, _, rfl⟩ := hv
  rfl
set_option maxRecDepth 100000 in
set_option maxHeartbeats 4000000 in
theorem rcrc_any (s : ByteArray) (w : World) (hs : s.size ≤ 9223372036854775807) : Calls Tryd.prog 65 #[.string s] w fun e w' => e = .returned (.int .i64 (crcT s : Nat)) ∧ Step w w' := by
  obtain ⟨T, hT⟩ : ∃ T, crcT s = T := ⟨_, rfl⟩
  have HT := hide hT
  rw [hT]
  clear hT
  go_enter Tryd.func65, Tryd.ntmps65
  go_wp2
  go_loop [3, 4, 5] (fun x i _ => ∃ k y : Nat, k ≤ s.size ∧ i = .int .i64 k ∧ x = .int .u32 y ∧ Hid (y = sumC 4294967295 (s.data.toList.take k)) ∧ y < 4294967296) (fun _ i _ => s.size - (intOf i).toNat)
  case atStart => exact ⟨0, 4294967295, Nat.zero_le _, rfl, rfl, rfl, by omega⟩
  case round =>
    obtain ⟨k, y, hk, rfl, rfl, HY, hy⟩ := hrel
    by_cases hlt : k < s.size
    · have hkl : (k : Int) < (s.size : Int) := by omega
      have hk0 : (0 : Int) ≤ (k : Int) := by omega
      have hc := s[k].toNat_lt
      have HS : Hid (sumC 4294967295 (s.data.toList.take (k + 1)) = stepsC 8 (y ^^^ s[k].toNat)) := by
        show _ = _
        rw [List.take_add_one, List.getElem?_eq_getElem (by simpa using hlt), sumC, List.foldl_append, HY.out]
        rfl
      have q1 := u32_xor_nat y s[k].toNat hy (by omega)
      have hx0 : y ^^^ s[k].toNat < 4294967296 := Nat.xor_lt_two_pow (n := 32) (by omega) (by omega)
      obtain ⟨v, hv⟩ : ∃ v, y ^^^ s[k].toNat = v := ⟨_, rfl⟩
      rw [hv] at q1 hx0 HS
      clear hv
      go_wp2_with fail
      go_loop [3, 5] (fun x i => ∃ j u : Nat, j ≤ 8 ∧ i = .int .i64 j ∧ x = .int .u32 u ∧ Hid (u = stepsC j v) ∧ u < 4294967296) (fun _ i => 8 - (intOf i).toNat)
      case atStart => exact ⟨0, v, by omega, rfl, rfl, rfl, hx0⟩
      case round =>
        clear q1
        obtain ⟨j, u, hj, rfl, rfl, HU, hu⟩ := hrel
        by_cases hlj : j < 8
        · have hjl : (j : Int) < 8 := by omega
          have HSU : Hid (stepC u = stepsC (j + 1) v) := by show _ = _; rw [HU.out]; rfl
          rcases Nat.mod_two_eq_zero_or_one u with hm | hm
          · have hb : (bits .and .u32 (u : Int) 1 == 1) = false := by rw [bit1 hu, hm]; rfl
            have hu2 : stepC u = u / 2 := by rw [stepC, if_neg (by omega)]
            rw [hu2] at HSU
            clear hu2 hm
            go_wp2_with fail
            go_round
            case rel => exact ⟨j + 1, u / 2, by omega, by go_num, by go_num, HSU.out, by omega⟩
            case measure => simp [intOf]; omega
          · have hb : (bits .and .u32 (u : Int) 1 == 1) = true := by rw [bit1 hu, hm]; rfl
            have hu2 : stepC u = (u / 2) ^^^ 3988292384 := by rw [stepC, if_pos hm]
            have hx : bits .xor .u32 ((u : Int) / 2) 3988292384 = ((stepC u : Nat) : Int) := by rw [hu2]; exact u32_xor_nat (u / 2) 3988292384 (by omega) (by omega)
            have hlt2 := stepC_lt hu
            clear hu2 hm
            generalize stepC u = z at HSU hx hlt2
            go_wp2_with fail
            go_round
            case rel => exact ⟨j + 1, z, by omega, by go_num, rfl, HSU.out, hlt2⟩
            case measure => simp [intOf]; omega
        · obtain rfl : j = 8 := by omega
          go_wp2_with fail
          go_round
          case rel => exact ⟨k + 1, u, by omega, by go_num, rfl, by show _ = _; rw [HS.out, HU.out], hu⟩
          case measure => simp [intOf]; omega
    · obtain rfl : k = s.size := by omega
      have q1 := u32_xor_nat y 4294967295 hy (by omega)
      have hx0 : y ^^^ 4294967295 < 4294967296 := Nat.xor_lt_two_pow (n := 32) (by omega) (by omega)
      have HE : Hid (T = y ^^^ 4294967295) := by
        show _ = _
        rw [← HT.out, crcT, ← show s.data.toList.take s.size = s.data.toList from List.take_of_length_le (by simp), ← HY.out]
      generalize y ^^^ 4294967295 = z at q1 hx0 HE
      have q2 : bits .xor .u32 (y : Int) 4294967295 = (z : Int) := q1
      clear q1
      go_wp2_with fail
      go_ret
      exact ⟨ret_int (by rw [HE.out]), Step.of⟩
end Go.Proofs.YtinpnginjpfbpaaDoor
