/-
  Sa, Sb, Sc, Sd: texts put together.
-/
import Derived.Test.YtafgfehjdbomfaaDoorPx
namespace Go.Proofs.YtafgfehjdbomfaaDoor
open Go.RowKit

theorem lt3 {t : Nat} (h : t < 3) : t = 0 ∨ t = 1 ∨ t = 2 := by omega
theorem lt8 {s : Nat} (h : s < 8) : s = 0 ∨ s = 1 ∨ s = 2 ∨ s = 3 ∨ s = 4 ∨ s = 5 ∨ s = 6 ∨ s = 7 := by omega
/-- A set of truths, and one truth more. -/
def orT (s t : Nat) : Nat := s ||| 2 ^ t
def orS (s t : Nat) : Nat := s ||| t
theorem orT_lt {s t : Nat} (hs : s < 8) (ht : t < 3) : orT s t < 8 := by
  rcases lt8 hs with rfl | rfl | rfl | rfl | rfl | rfl | rfl | rfl <;> rcases lt3 ht with rfl | rfl | rfl <;> decide
theorem orS_lt {s t : Nat} (hs : s < 8) (ht : t < 8) : orS s t < 8 := by
  rcases lt8 hs with rfl | rfl | rfl | rfl | rfl | rfl | rfl | rfl <;> rcases lt8 ht with rfl | rfl | rfl | rfl | rfl | rfl | rfl | rfl <;> decide
def ofT (l : List Nat) : Nat := l.foldl orT 0
theorem ofT_lt (l : List Nat) (h : ∀ t ∈ l, t < 3) : ofT l < 8 := by
  unfold ofT
  suffices ∀ (l : List Nat) (s : Nat), s < 8 → (∀ t ∈ l, t < 3) → l.foldl orT s < 8 from this l 0 (by decide) h
  intro l
  induction l with
  | nil => intro s hs _; exact hs
  | cons t l ih => intro s hs h; exact ih _ (orT_lt hs (h t (by simp))) (fun x hx => h x (by simp [hx]))
theorem ofT_snoc (l : List Nat) (t : Nat) : ofT (l ++ [t]) = orT (ofT l) t := by simp [ofT]
def natCells (l : List Nat) : List (List Value) := l.map fun (n : Nat) => [Value.int .i64 (n : Int)]

set_option maxRecDepth 100000 in
theorem phas_any (s t : Nat) (w : World) (hs : s < 8) (ht : t < 3) : Calls Tryd.prog 85 #[.int .u64 (s : Int), .int .i64 (t : Int)] w fun e w' => e = .returned (.bool (s.testBit t)) ∧ w = w' := by
  rcases lt8 hs with rfl | rfl | rfl | rfl | rfl | rfl | rfl | rfl <;> rcases lt3 ht with rfl | rfl | rfl
  all_goals
    go_enter Tryd.func85, Tryd.ntmps85
    go_wp2
    go_ret
    exact ⟨rfl, rfl⟩
def oppC (c : Int) : Int := if c = 0 then 1 else if c = 1 then 0 else if c = 2 then 5 else if c = 3 then 4 else if c = 4 then 3 else 2
set_option maxRecDepth 100000 in
theorem popp_any (c : Int) (w : World) (h0 : 0 ≤ c) (h5 : c ≤ 5) : Calls Tryd.prog 89 #[.int .i64 c] w fun e w' => e = .returned (.int .i64 (oppC c)) ∧ w = w' := by
  have i0 : ∀ w, (Instr.index 152 (.agg #[.int .i64 1, .int .i64 0, .int .i64 5, .int .i64 4, .int .i64 3, .int .i64 2]) (.int .i64 0)).run Tryd.prog w = .ok (.int .i64 1) w := fun _ => by kernel_rfl
  have i1 : ∀ w, (Instr.index 152 (.agg #[.int .i64 1, .int .i64 0, .int .i64 5, .int .i64 4, .int .i64 3, .int .i64 2]) (.int .i64 1)).run Tryd.prog w = .ok (.int .i64 0) w := fun _ => by kernel_rfl
  have i2 : ∀ w, (Instr.index 152 (.agg #[.int .i64 1, .int .i64 0, .int .i64 5, .int .i64 4, .int .i64 3, .int .i64 2]) (.int .i64 2)).run Tryd.prog w = .ok (.int .i64 5) w := fun _ => by kernel_rfl
  have i3 : ∀ w, (Instr.index 152 (.agg #[.int .i64 1, .int .i64 0, .int .i64 5, .int .i64 4, .int .i64 3, .int .i64 2]) (.int .i64 3)).run Tryd.prog w = .ok (.int .i64 4) w := fun _ => by kernel_rfl
  have i4 : ∀ w, (Instr.index 152 (.agg #[.int .i64 1, .int .i64 0, .int .i64 5, .int .i64 4, .int .i64 3, .int .i64 2]) (.int .i64 4)).run Tryd.prog w = .ok (.int .i64 3) w := fun _ => by kernel_rfl
  have i5 : ∀ w, (Instr.index 152 (.agg #[.int .i64 1, .int .i64 0, .int .i64 5, .int .i64 4, .int .i64 3, .int .i64 2]) (.int .i64 5)).run Tryd.prog w = .ok (.int .i64 2) w := fun _ => by kernel_rfl
  have : c = 0 ∨ c = 1 ∨ c = 2 ∨ c = 3 ∨ c = 4 ∨ c = 5 := by omega
  rcases this with rfl | rfl | rfl | rfl | rfl | rfl
  all_goals
    go_enter Tryd.func89, Tryd.ntmps89
    go_wp2
    go_ret
    exact ⟨rfl, rfl⟩

set_option maxRecDepth 100000 in
set_option maxHeartbeats 4000000 in
theorem pset_any {w0 : World} (l : List Nat) (A : Option Addr) (c : Nat) (w : World) (h : SlAt w0 w0.heap.size 1 A (natCells l)) [hf : Fut w0 w] (hl : l.length ≤ 4611686018427387904) (ht : ∀ t ∈ l, t < 3) :
    Calls Tryd.prog 58 #[.slice A l.length c] w fun e w' => e = .returned (.int .u64 ((ofT l : Nat) : Int)) ∧ w = w' := by
  have hB := hf.below.size
  have HT := hide ht
  clear ht
  go_enter Tryd.func58, Tryd.ntmps58
  go_wp2
  go_loop [3, 5, 8] (fun s _ i => ∃ k : Nat, k ≤ l.length ∧ i = .int .i64 k ∧ s = .int .u64 ((ofT (l.take k) : Nat) : Int)) (fun _ _ i => l.length - (intOf i).toNat)
  case atStart => exact ⟨0, Nat.zero_le _, rfl, rfl⟩
  case round =>
    obtain ⟨k, hk, rfl, rfl⟩ := hrel
    by_cases hlt : k < l.length
    · obtain ⟨b, off, rfl, hb, hc⟩ := h.elem hf (k := k) (by simpa [natCells] using hlt)
      have h1 := At.l1 (hc k [.int .i64 ((l[k] : Nat) : Int)] (by simp [natCells, hlt]))
      simp only [Nat.mul_one] at h1
      have hb' : b < w.heap.size := by omega
      clear hc
      have hs8 := ofT_lt (l.take k) (fun t hx => HT.out t (List.mem_of_mem_take hx))
      have ht3 := HT.out l[k] (List.getElem_mem hlt)
      have HN := hide (ofT_snoc (l.take k) l[k])
      have HTK : Hid (l.take (k + 1) = l.take k ++ [l[k]]) := by show _ = _; simp
      obtain ⟨t, hte⟩ : ∃ t, l[k] = t := ⟨_, rfl⟩
      obtain ⟨s, hse⟩ : ∃ s, ofT (l.take k) = s := ⟨_, rfl⟩
      rw [hte] at h1 ht3 HN HTK
      rw [hse] at hs8 HN
      rw [hse]
      have HSE := hide hse
      clear hse hte
      rcases lt8 hs8 with rfl | rfl | rfl | rfl | rfl | rfl | rfl | rfl <;> rcases lt3 ht3 with rfl | rfl | rfl
      all_goals
        go_wp2
        go_round
        case rel => exact ⟨k + 1, by omega, by go_num, by rw [HTK.out, HN.out]; rfl⟩
        case measure => simp [intOf]; omega
    · have HE : Hid (ofT (l.take k) = ofT l) := by show _ = _; rw [List.take_of_length_le (by omega)]
      rw [HE.out]
      go_wp2_with fail
      go_ret
      exact ⟨rfl, rfl⟩

def someB (c : Int) (least most v : Val) : Bool :=
  if c = 0 then standB 3 least v && standB 3 v most else if c = 1 then standB 1 least v || standB 1 most v
  else if c = 2 ∨ c = 3 then standB c least v else standB c most v
end Go.Proofs.YtafgfehjdbomfaaDoor
namespace Go.Proofs.YtafgfehjdbomfaaDoor
open Go.RowKit

set_option maxRecDepth 100000 in
set_option maxHeartbeats 4000000 in
theorem psome_any (c : Int) (a b v : Val) (w : World) (h0 : 0 ≤ c) (h5 : c ≤ 5) : Calls Tryd.prog 88 #[.int .i64 c, a.val, b.val, v.val] w fun e w' => e = .returned (.bool (someB c a b v)) ∧ Step w w' := by
  obtain ⟨W, hW⟩ : ∃ W, W = ((w.alloc (.cells #[.int .i64 a.kind, .int .i64 a.i, .bool a.b, .string a.s] 57)).alloc (.cells #[.int .i64 b.kind, .int .i64 b.i, .bool b.b, .string b.s] 57)).alloc (.cells #[.int .i64 v.kind, .int .i64 v.i, .bool v.b, .string v.s] 57) := ⟨_, rfl⟩
  have SW : Step w W := by rw [hW]; exact Step.of
  have HA : Hid (Blk W w.heap.size 57 a.cells) := by rw [hW]; exact ((Blk.new w a.cells 57).alloc _).alloc _
  have HB : Hid (Blk W (w.heap.size + 1) 57 b.cells) := by rw [hW]; exact (Blk.new_at (w := w.alloc (.cells #[.int .i64 a.kind, .int .i64 a.i, .bool a.b, .string a.s] 57)) (by simp) b.cells 57).alloc _
  have HV : Hid (Blk W (w.heap.size + 1 + 1) 57 v.cells) := by rw [hW]; exact Blk.new_at (by simp) v.cells 57
  have s1 := fun w' => pstands_any 3 a v w'
  have s2 := fun w' => pstands_any 3 v b w'
  have s3 := fun w' => pstands_any 1 a v w'
  have s4 := fun w' => pstands_any 1 b v w'
  have s5 := fun w' => pstands_any c a v w'
  have s6 := fun w' => pstands_any c b v w'
  obtain ⟨r1, h1⟩ : ∃ r, standB 3 a v = r := ⟨_, rfl⟩
  obtain ⟨r2, h2⟩ : ∃ r, standB 3 v b = r := ⟨_, rfl⟩
  obtain ⟨r3, h3⟩ : ∃ r, standB 1 a v = r := ⟨_, rfl⟩
  obtain ⟨r4, h4⟩ : ∃ r, standB 1 b v = r := ⟨_, rfl⟩
  obtain ⟨r5, h5'⟩ : ∃ r, standB c a v = r := ⟨_, rfl⟩
  obtain ⟨r6, h6⟩ : ∃ r, standB c b v = r := ⟨_, rfl⟩
  have HR : Hid (someB c a b v = (if c = 0 then r1 && r2 else if c = 1 then r3 || r4 else if c = 2 ∨ c = 3 then r5 else r6)) := by show _ = _; rw [someB, h1, h2, h3, h4, h5', h6]
  rw [HR.out]
  rw [h1] at s1; rw [h2] at s2; rw [h3] at s3; rw [h4] at s4; rw [h5'] at s5; rw [h6] at s6
  unfold Val.val at s1 s2 s3 s4 s5 s6 ⊢
  have S1 := hide s1; have S2 := hide s2; have S3 := hide s3; have S4 := hide s4; have S5 := hide s5; have S6 := hide s6
  clear s1 s2 s3 s4 s5 s6 h1 h2 h3 h4 h5' h6 HR
  have HWE := hide hW
  clear hW
  go_enter Tryd.func88, Tryd.ntmps88
  go_upto_region 1 with (fail)
  rw [← HWE.out]
  obtain ⟨a0, a1, a2, a3⟩ := At.z4 HA.out.at0; have la := HA.out.lt
  obtain ⟨b0, b1, b2, b3⟩ := At.z4 HB.out.at0; have lb := HB.out.lt
  obtain ⟨v0, v1, v2, v3⟩ := At.z4 HV.out.at0; have lv := HV.out.lt
  have hc : c = 0 ∨ c = 1 ∨ c = 2 ∨ c = 3 ∨ c = 4 ∨ c = 5 := by omega
  rcases hc with rfl | rfl | rfl | rfl | rfl | rfl
  · go_wp2_with fail
    refine (S1.out _).mono ?_
    rintro e w5 ⟨rfl, hs5⟩
    clear a0 a1 a2 a3 la b0 b1 b2 b3 lb v0 v1 v2 v3 lv
    obtain ⟨b0, b1, b2, b3⟩ := At.z4 (HB.out.fut (w' := w5)).at0; have lb := (HB.out.fut (w' := w5)).lt
    obtain ⟨v0, v1, v2, v3⟩ := At.z4 (HV.out.fut (w' := w5)).at0; have lv := (HV.out.fut (w' := w5)).lt
    cases r1
    · go_wp2_with fail
      go_ret
      exact ⟨rfl, Step.of⟩
    · go_wp2_with fail
      refine (S2.out _).mono ?_
      rintro e w6 ⟨rfl, hs6⟩
      go_wp2_with fail
      go_ret
      exact ⟨by simp, Step.of⟩
  · go_wp2_with fail
    refine (S3.out _).mono ?_
    rintro e w5 ⟨rfl, hs5⟩
    clear a0 a1 a2 a3 la b0 b1 b2 b3 lb v0 v1 v2 v3 lv
    obtain ⟨b0, b1, b2, b3⟩ := At.z4 (HB.out.fut (w' := w5)).at0; have lb := (HB.out.fut (w' := w5)).lt
    obtain ⟨v0, v1, v2, v3⟩ := At.z4 (HV.out.fut (w' := w5)).at0; have lv := (HV.out.fut (w' := w5)).lt
    cases r3
    · go_wp2_with fail
      refine (S4.out _).mono ?_
      rintro e w6 ⟨rfl, hs6⟩
      go_wp2_with fail
      go_ret
      exact ⟨by simp, Step.of⟩
    · go_wp2_with fail
      go_ret
      exact ⟨by simp, Step.of⟩
  · go_wp2_with fail
    refine (S5.out _).mono ?_
    rintro e w5 ⟨rfl, hs5⟩
    go_wp2_with fail
    go_ret
    exact ⟨by simp, Step.of⟩
  · go_wp2_with fail
    refine (S5.out _).mono ?_
    rintro e w5 ⟨rfl, hs5⟩
    go_wp2_with fail
    go_ret
    exact ⟨by simp, Step.of⟩
  · go_wp2_with fail
    refine (S6.out _).mono ?_
    rintro e w5 ⟨rfl, hs5⟩
    go_wp2_with fail
    go_ret
    exact ⟨by simp, Step.of⟩
  · go_wp2_with fail
    refine (S6.out _).mono ?_
    rintro e w5 ⟨rfl, hs5⟩
    go_wp2_with fail
    go_ret
    exact ⟨by simp, Step.of⟩

/-- One pair of truths more, if it may be. -/
def stepS (k : Int) (a b : Nat) (x y out : Nat) : Nat :=
  if a.testBit x && b.testBit y && (k != 3 || x == y) then orS out (ofT [(joinT k x y).toNat]) else out
def innerS (k : Int) (a b : Nat) (x : Nat) : Nat → Nat → Nat
  | 0, out => out
  | y + 1, out => stepS k a b x y (innerS k a b x y out)
def outerS (k : Int) (a b : Nat) : Nat → Nat
  | 0 => 0
  | x + 1 => innerS k a b x 3 (outerS k a b x)
def joinS (k : Int) (a b : Nat) : Nat := outerS k a b 3
theorem tr_nat {a : Int} (h : Tr a) : a = ((a.toNat : Nat) : Int) ∧ a.toNat < 3 := by rcases h with rfl | rfl | rfl <;> decide
theorem tr_of {x : Nat} (h : x < 3) : Tr (x : Int) := by rcases lt3 h with rfl | rfl | rfl <;> simp [Tr]
theorem ofT_one {t : Nat} (h : t < 3) : ofT [t] < 8 := ofT_lt _ (by simpa using h)
end Go.Proofs.YtafgfehjdbomfaaDoor
namespace Go.Proofs.YtafgfehjdbomfaaDoor
open Go.RowKit

theorem SlAt.of_blk1 {w : World} {g : Nat} {e : TypeId} {size : Nat} {cs : List Value} {l : List (List Value)} (h : Blk w g e cs) (he : cs = l.flatten) (hf : ∀ x ∈ l, x.length = size) : SlAt w w.heap.size size (some ⟨g, 0, none⟩) l := by
  subst he
  exact SlAt.of_at h.at0 h.lt hf
theorem stepS_lt {k : Int} {a b x y out : Nat} (h : out < 8) : stepS k a b x y out < 8 := by
  unfold stepS
  split
  · exact orS_lt h (ofT_one (tr_nat (joinT_tr k x y)).2)
  · exact h
theorem innerS_lt {k : Int} {a b x : Nat} (y : Nat) {out : Nat} (h : out < 8) : innerS k a b x y out < 8 := by
  induction y with
  | zero => exact h
  | succ y ih => exact stepS_lt ih
theorem outerS_lt {k : Int} {a b : Nat} (x : Nat) : outerS k a b x < 8 := by
  induction x with
  | zero => exact (by decide : (0 : Nat) < 8)
  | succ x ih => exact innerS_lt 3 ih
theorem joinS_lt {k : Int} {a b : Nat} : joinS k a b < 8 := outerS_lt 3

set_option maxRecDepth 100000 in
set_option maxHeartbeats 8000000 in
/-- One slice of one truth, and of. -/
theorem pof_one (t : Nat) (w : World) (b : Nat) (h : Blk w b 3 [.int .i64 (t : Int)]) (ht : t < 3) :
    Calls Tryd.prog 58 #[.slice (some ⟨b, 0, none⟩) 1 1] w fun e w' => e = .returned (.int .u64 ((ofT [t] : Nat) : Int)) ∧ w = w' :=
  pset_any [t] (some ⟨b, 0, none⟩) 1 w (SlAt.of_blk1 (l := natCells [t]) h rfl (by intro x hx; simp [natCells] at hx; subst hx; rfl)) (by simp) (by simpa using ht)

set_option maxRecDepth 100000 in
set_option maxHeartbeats 8000000 in
theorem psjoin_any (k : Int) (a b : Nat) (w : World) (hk : k = 3 ∨ k = 4 ∨ k = 5) (ha : a < 8) (hb : b < 8) :
    Calls Tryd.prog 84 #[.int .i64 k, .int .u64 (a : Int), .int .u64 (b : Int)] w fun e w' => e = .returned (.int .u64 ((joinS k a b : Nat) : Int)) ∧ Step w w' := by
  have HK := hide hk
  clear hk
  go_enter Tryd.func84, Tryd.ntmps84
  go_wp2_with fail
  go_loopw [7, 8, 9, 10, 13] (fun out _ _ i _ wr => ∃ x : Nat, x ≤ 3 ∧ i = .int .i64 x ∧ out = .int .u64 ((outerS k a b x : Nat) : Int) ∧ Step w wr) (fun _ _ _ i _ _ => 3 - (intOf i).toNat)
  case atStart => exact ⟨0, by omega, rfl, rfl, Step.of⟩
  case round =>
    obtain ⟨x, hx, rfl, rfl, hst⟩ := hrel
    obtain ⟨wo, rfl⟩ : ∃ wo : World, wo = wr := ⟨_, rfl⟩
    by_cases hx3 : x < 3
    · have hxi : (x : Int) < 3 := by omega
      have HO8 := hide (outerS_lt (k := k) (a := a) (b := b) x)
      have HSU : Hid (outerS k a b (x + 1) = innerS k a b x 3 (outerS k a b x)) := hide rfl
      obtain ⟨o, ho⟩ : ∃ o, outerS k a b x = o := ⟨_, rfl⟩
      rw [ho] at HO8 HSU
      rw [ho]
      clear ho
      go_wp2_with fail
      go_loopw [7, 9, 13] (fun out _ j wr => ∃ y : Nat, y ≤ 3 ∧ j = .int .i64 y ∧ out = .int .u64 ((innerS k a b x y o : Nat) : Int) ∧ Step w wr) (fun _ _ j _ => 3 - (intOf j).toNat)
      case atStart => exact ⟨0, by omega, rfl, rfl, Step.of⟩
      case round =>
        obtain ⟨y, hy, rfl, rfl, hst2⟩ := hrel
        obtain ⟨wi, rfl⟩ : ∃ wi : World, wi = wr := ⟨_, rfl⟩
        by_cases hy3 : y < 3
        · have hyi : (y : Int) < 3 := by omega
          have HI8 := hide (innerS_lt (k := k) (a := a) (b := b) (x := x) y HO8.out)
          have HS : Hid (innerS k a b x (y + 1) o = stepS k a b x y (innerS k a b x y o)) := hide rfl
          obtain ⟨s, hs⟩ : ∃ s, innerS k a b x y o = s := ⟨_, rfl⟩
          rw [hs] at HI8 HS
          rw [hs]
          clear hs
          have HA1 := hide (fun w' => phas_any a x w' ha hx3)
          have HB1 := hide (fun w' => phas_any b y w' hb hy3)
          have hxy0 : ((x : Int) == (y : Int)) = (x == y) := by rcases lt3 hx3 with rfl | rfl | rfl <;> rcases lt3 hy3 with rfl | rfl | rfl <;> rfl
          obtain ⟨p, hp⟩ : ∃ p, a.testBit x = p := ⟨_, rfl⟩
          obtain ⟨q, hq⟩ : ∃ q, b.testBit y = q := ⟨_, rfl⟩
          obtain ⟨m, hm⟩ : ∃ m, (k != 3) = m := ⟨_, rfl⟩
          obtain ⟨n, hn⟩ : ∃ n, (x == y) = n := ⟨_, rfl⟩
          have hT := tr_nat (joinT_tr k x y)
          have PJ0 := fun w' => pjoin_any k x y w' HK.out (tr_of hx3) (tr_of hy3)
          rw [hT.1] at PJ0
          have ht3 := hT.2
          clear hT
          obtain ⟨t, ht⟩ : ∃ t, (joinT k x y).toNat = t := ⟨_, rfl⟩
          rw [ht] at PJ0 ht3
          have PJ := hide PJ0
          have HT3 := hide ht3
          rw [hp] at HA1; rw [hq] at HB1
          rw [hn] at hxy0
          have HR : Hid (stepS k a b x y s = if p && q && (m || n) then orS s (ofT [t]) else s) := by show _ = _; rw [stepS, hp, hq, hm, hn, ht]
          clear hp hq hn ht PJ0 ht3
          have o0 : ofT [0] = 1 := rfl
          have o1 : ofT [1] = 2 := rfl
          have o2 : ofT [2] = 4 := rfl
          cases p
          · go_wp2_with (first | (go_at_call 85; first | (with_reducible refine (HA1.out _).mono ?_; rintro e w' ⟨rfl, rfl⟩) | (with_reducible refine (HB1.out _).mono ?_; rintro e w' ⟨rfl, rfl⟩)))
            go_roundw
            case rel => exact ⟨y + 1, by omega, by go_num, by rw [HS.out, HR.out]; rfl, Step.of⟩
            case measure => simp [intOf]; omega
          · cases q
            · go_wp2_with (first | (go_at_call 85; first | (with_reducible refine (HA1.out _).mono ?_; rintro e w' ⟨rfl, rfl⟩) | (with_reducible refine (HB1.out _).mono ?_; rintro e w' ⟨rfl, rfl⟩)))
              go_roundw
              case rel => exact ⟨y + 1, by omega, by go_num, by rw [HS.out, HR.out]; rfl, Step.of⟩
              case measure => simp [intOf]; omega
            · cases m <;> cases n
              · go_wp2_with (first | (go_at_call 85; first | (with_reducible refine (HA1.out _).mono ?_; rintro e w' ⟨rfl, rfl⟩) | (with_reducible refine (HB1.out _).mono ?_; rintro e w' ⟨rfl, rfl⟩)))
                go_roundw
                case rel => exact ⟨y + 1, by omega, by go_num, by rw [HS.out, HR.out]; rfl, Step.of⟩
                case measure => simp [intOf]; omega
              all_goals
                go_wp2_with (first | (go_at_call 85; first | (with_reducible refine (HA1.out _).mono ?_; rintro e w' ⟨rfl, rfl⟩) | (with_reducible refine (HB1.out _).mono ?_; rintro e w' ⟨rfl, rfl⟩)) | (go_at_call 103; with_reducible refine (PJ.out _).mono ?_; rintro e w' ⟨rfl, rfl⟩))
                refine (pof_one t _ _ (Blk.new wi [.int .i64 (t : Int)] 3) HT3.out).mono ?_
                rintro e w' ⟨rfl, rfl⟩
                have ht3 := HT3.out
                have hs8 := HI8.out
                clear PJ HA1 HB1 HT3 HI8
                rcases lt3 ht3 with rfl | rfl | rfl <;> rcases lt8 hs8 with rfl | rfl | rfl | rfl | rfl | rfl | rfl | rfl
                all_goals
                  go_wp2_with fail
                  go_roundw
                  case rel => exact ⟨y + 1, by omega, by go_num, by rw [HS.out, HR.out]; rfl, Step.of⟩
                  case measure => simp [intOf]; omega
        · have hyi : ¬ (y : Int) < 3 := by omega
          have e3 : y = 3 := by omega
          subst e3
          go_wp2_with fail
          go_roundw
          case rel => exact ⟨x + 1, by omega, by go_num, by rw [HSU.out], Step.of⟩
          case measure => simp [intOf]; omega
    · have hxi : ¬ (x : Int) < 3 := by omega
      have e3 : x = 3 := by omega
      subst e3
      go_wp2_with fail
      go_ret
      exact ⟨rfl, Step.of⟩
end Go.Proofs.YtafgfehjdbomfaaDoor
namespace Go.Proofs.YtafgfehjdbomfaaDoor
open Go.RowKit

/-- One column's statistics. -/
structure Sta where
  col : Int
  nulls : Int
  mn : Val
  mx : Val
def Sta.cells (t : Sta) : List Value := [.int .i64 t.col, .int .i64 t.nulls, .int .i64 t.mn.kind, .int .i64 t.mn.i, .bool t.mn.b, .string t.mn.s, .int .i64 t.mx.kind, .int .i64 t.mx.i, .bool t.mx.b, .string t.mx.s]
theorem clean_box (v : Val) : (clean v).cells = v.box := by
  show [_, _, _, _] = [_, _, _, _]
  rw [clean_kind]
/-- The two bounds that are laid into new variables: before the stores .. -/
structure Tl0 (W wx : World) (mn mx : Val) (g8 g9 : Nat) : Prop where
  xb : Blk wx g8 57 [.int .i64 0, .int .i64 0, .bool false, .string ⟨#[]⟩]
  yb : Blk wx g9 57 [.int .i64 0, .int .i64 0, .bool false, .string ⟨#[]⟩]
  ne : g8 ≠ g9
  lx : W.heap.size ≤ g8
  ly : W.heap.size ≤ g9
  st : Step W wx
/-- .. and behind them. -/
structure Tl (W wx : World) (mn mx : Val) (g8 g9 : Nat) : Prop where
  xb : Blk wx g8 57 mn.box
  yb : Blk wx g9 57 mx.box
  st : Step W wx
theorem Tl0.done {base wx : World} {mn mx : Val} {g8 g9 : Nat} (h : Tl0 base wx mn mx g8 g9) :
    Tl base ((((((((wx.setCell ⟨g8, 0, none⟩ (.int .i64 (kindV mn))).setCell ⟨g8, 1, none⟩ (.int .i64 (clean mn).i)).setCell ⟨g8, 2, none⟩ (.bool (clean mn).b)).setCell ⟨g8, 3, none⟩ (.string (clean mn).s)).setCell ⟨g9, 0, none⟩ (.int .i64 (kindV mx))).setCell ⟨g9, 1, none⟩ (.int .i64 (clean mx).i)).setCell ⟨g9, 2, none⟩ (.bool (clean mx).b)).setCell ⟨g9, 3, none⟩ (.string (clean mx).s)) mn mx g8 g9 :=
  ⟨(h.xb.put4 _ _ _ _).far4 h.ne _ _ _ _, (h.yb.far4 (Ne.symm h.ne) _ _ _ _).put4 _ _ _ _, ⟨below4 (below4 h.st.below h.lx _ _ _ _) h.ly _ _ _ _⟩⟩
theorem pof_k0 (w : World) (b : Nat) (hb : b = w.heap.size) : Calls Tryd.prog 58 #[.slice (some ⟨b, 0, none⟩) 1 1] (w.alloc (.cells #[.int .i64 0] 3)) fun e w' => e = .returned (.int .u64 1) ∧ w.alloc (.cells #[.int .i64 0] 3) = w' := by
  subst hb
  exact pof_one 0 _ _ (Blk.new w [.int .i64 0] 3) (by decide)
theorem pof_k1 (w : World) (b : Nat) (hb : b = w.heap.size) : Calls Tryd.prog 58 #[.slice (some ⟨b, 0, none⟩) 1 1] (w.alloc (.cells #[.int .i64 1] 3)) fun e w' => e = .returned (.int .u64 2) ∧ w.alloc (.cells #[.int .i64 1] 3) = w' := by
  subst hb
  exact pof_one 1 _ _ (Blk.new w [.int .i64 1] 3) (by decide)
theorem pof_k2 (w : World) (b : Nat) (hb : b = w.heap.size) : Calls Tryd.prog 58 #[.slice (some ⟨b, 0, none⟩) 1 1] (w.alloc (.cells #[.int .i64 2] 3)) fun e w' => e = .returned (.int .u64 4) ∧ w.alloc (.cells #[.int .i64 2] 3) = w' := by
  subst hb
  exact pof_one 2 _ _ (Blk.new w [.int .i64 2] 3) (by decide)
theorem oppC_bd (c : Int) : 0 ≤ oppC c ∧ oppC c ≤ 5 := by unfold oppC; repeat' split <;> omega
def bitS (b : Bool) (n : Nat) : Nat := if b then n else 0
/-- The truths that may be of a node, by statistics. -/
def toldS (n : Nod) (st : Sta) (rows : Int) : Nat :=
  if n.kind = 2 then orS (bitS (decide (0 < st.nulls)) 2) (bitS (decide (st.nulls < rows)) 1)
  else if st.nulls < rows then orS (orS (bitS (decide (0 < st.nulls)) 4) (bitS (someB n.cmp (clean st.mn) (clean st.mx) n.v) 2)) (bitS (someB (oppC n.cmp) (clean st.mn) (clean st.mx) n.v) 1)
  else bitS (decide (0 < st.nulls)) 4

set_option maxRecDepth 100000 in
set_option maxHeartbeats 16000000 in
theorem ptold_any {w0 : World} (b o : Nat) (n : Nod) (col nulls rows : Int) (mn mx : Val) (w : World) (hn : At w0 b o n.cells) (hb : b < w0.heap.size) [hf : Fut w0 w] (hc : n.kind = 2 ∨ (0 ≤ n.cmp ∧ n.cmp ≤ 5)) :
    Calls Tryd.prog 57 #[.pointer (some ⟨b, o, none⟩), .agg #[.int .i64 col, .int .i64 nulls, .int .i64 mn.kind, .int .i64 mn.i, .bool mn.b, .string mn.s, .int .i64 mx.kind, .int .i64 mx.i, .bool mx.b, .string mx.s], .int .i64 rows] w fun e w' => e = .returned (.int .u64 ((toldS n ⟨col, nulls, mn, mx⟩ rows : Nat) : Int)) ∧ Step w w' := by
  have hz := hf.below.size
  have HN := hide hn; clear hn
  obtain ⟨W, hW⟩ : ∃ W, W = w.alloc (.cells #[.int .i64 col, .int .i64 nulls, .int .i64 mn.kind, .int .i64 mn.i, .bool mn.b, .string mn.s, .int .i64 mx.kind, .int .i64 mx.i, .bool mx.b, .string mx.s] 68) := ⟨_, rfl⟩
  have SW : Step w W := by rw [hW]; exact Step.of
  have HSB : Hid (Blk W w.heap.size 68 [.int .i64 col, .int .i64 nulls, .int .i64 mn.kind, .int .i64 mn.i, .bool mn.b, .string mn.s, .int .i64 mx.kind, .int .i64 mx.i, .bool mx.b, .string mx.s]) := by rw [hW]; exact Blk.new w [.int .i64 col, .int .i64 nulls, .int .i64 mn.kind, .int .i64 mn.i, .bool mn.b, .string mn.s, .int .i64 mx.kind, .int .i64 mx.i, .bool mx.b, .string mx.s] 68
  have HW := hide hW; clear hW
  obtain ⟨R, hR⟩ : ∃ R, toldS n ⟨col, nulls, mn, mx⟩ rows = R := ⟨_, rfl⟩
  rw [hR]
  have HTR := hide hR; clear hR
  have PMN := hide (plain_ag mn)
  have PMX := hide (plain_ag mx)
  go_enter Tryd.func57, Tryd.ntmps57
  go_upto_region 1 with (fail)
  rw [← HW.out]
  have hzw := SW.size
  obtain ⟨n0, n1, n2, n3, n4, n5, n6, n7, n8⟩ := At.l9 (HN.out.below (fut w0 W) hb)
  have hlt1 : b < W.heap.size := by omega
  obtain ⟨t0, t1, t2, t3, t4, t5, t6, t7, t8, t9⟩ := At.z10 HSB.out.at0
  have lt_ := HSB.out.lt
  by_cases hk : n.kind = 2
  · have e2 : (n.kind == 2) = true := by simpa using hk
    have HR : Hid (toldS n ⟨col, nulls, mn, mx⟩ rows = orS (bitS (decide (0 < nulls)) 2) (bitS (decide (nulls < rows)) 1)) := by show _ = _; rw [toldS, if_pos hk]
    clear hk
    by_cases h1 : 0 < nulls <;> by_cases h2 : nulls < rows
    all_goals
      have B1 := hide (show bitS (decide (0 < nulls)) 2 = (if 0 < nulls then 2 else 0) by simp [bitS])
      have B2 := hide (show bitS (decide (nulls < rows)) 1 = (if nulls < rows then 1 else 0) by simp [bitS])
      first | rw [if_pos h1] at B1 | rw [if_neg h1] at B1
      first | rw [if_pos h2] at B2 | rw [if_neg h2] at B2
      go_wp2_with (first | (go_at_call 58; first | (with_reducible refine (pof_k1 _ _ (by first | rfl | simp)).mono ?_; rintro e w' ⟨rfl, rfl⟩) | (with_reducible refine (pof_k0 _ _ (by first | rfl | simp)).mono ?_; rintro e w' ⟨rfl, rfl⟩) | (with_reducible refine (pof_k2 _ _ (by first | rfl | simp)).mono ?_; rintro e w' ⟨rfl, rfl⟩)))
      go_ret
      exact ⟨by rw [← HTR.out, HR.out, B1.out, B2.out]; rfl, Step.of⟩
  · have e2 : (n.kind == 2) = false := by simpa using hk
    have hc' : 0 ≤ n.cmp ∧ n.cmp ≤ 5 := by rcases hc with h | h; exact absurd h hk; exact h
    have HR : Hid (toldS n ⟨col, nulls, mn, mx⟩ rows = if nulls < rows then orS (orS (bitS (decide (0 < nulls)) 4) (bitS (someB n.cmp (clean mn) (clean mx) n.v) 2)) (bitS (someB (oppC n.cmp) (clean mn) (clean mx) n.v) 1) else bitS (decide (0 < nulls)) 4) := by show _ = _; rw [toldS, if_neg hk]
    clear hk hc
    go_upto_if 33 with (fail)
    go_cut [7] from 31 to 37 (fun s wx => ∃ p : Nat, (p = 0 ∨ p = 4) ∧ s = .int .u64 (p : Int) ∧ Hid (bitS (decide (0 < nulls)) 4 = p) ∧ Step W wx)
    case first =>
      by_cases h1 : 0 < nulls
      all_goals
        have B1 := hide (show bitS (decide (0 < nulls)) 4 = (if 0 < nulls then 4 else 0) by simp [bitS])
        first | rw [if_pos h1] at B1 | rw [if_neg h1] at B1
        go_wp2_with (first | (go_at_call 58; first | (with_reducible refine (pof_k1 _ _ (by first | rfl | simp)).mono ?_; rintro e w' ⟨rfl, rfl⟩) | (with_reducible refine (pof_k0 _ _ (by first | rfl | simp)).mono ?_; rintro e w' ⟨rfl, rfl⟩) | (with_reducible refine (pof_k2 _ _ (by first | rfl | simp)).mono ?_; rintro e w' ⟨rfl, rfl⟩)))
        go_meet
        case rel => first | exact ⟨4, .inr rfl, rfl, B1, Step.of⟩ | exact ⟨0, .inl rfl, rfl, B1, Step.of⟩
    case rest =>
      obtain ⟨p, hp, rfl, HP, hsV⟩ := hcut
      obtain ⟨V, rfl⟩ : ∃ x : World, x = wc := ⟨_, rfl⟩
      clear n0 n1 n2 n3 n4 n5 n6 n7 n8 hlt1 t0 t1 t2 t3 t4 t5 t6 t7 t8 t9 lt_
      have zV := hsV.size
      have HRP : Hid (toldS n ⟨col, nulls, mn, mx⟩ rows = if nulls < rows then orS (orS p (bitS (someB n.cmp (clean mn) (clean mx) n.v) 2)) (bitS (someB (oppC n.cmp) (clean mn) (clean mx) n.v) 1) else p) := by show _ = _; rw [HR.out, HP.out]
      clear HR HP
      obtain ⟨t0, t1, t2, t3, t4, t5, t6, t7, t8, t9⟩ := At.z10 (HSB.out.fut (w' := V)).at0
      have lt_ := (HSB.out.fut (w' := V)).lt
      by_cases hnr : nulls < rows
      · have HR2 := HRP.out
        rw [if_pos hnr] at HR2
        have HR2 := hide HR2; clear HRP
        go_upto_region 11 with (fail)
        clear hnr
        go_cut [8, 9] from 42 to 47 (fun x y wx => ∃ g8 g9 : Nat, x = .pointer (some ⟨g8, 0, none⟩) ∧ y = .pointer (some ⟨g9, 0, none⟩) ∧ Tl V wx mn mx g8 g9)
        case first =>
          clear hzw zV hz
          refine wp_region_held_drew (S := (fun w' => Step V w' ∧ (∀ b o, b < V.heap.size → w'.cell? ⟨b, o, none⟩ = V.cell? ⟨b, o, none⟩))) (by kernel_rfl) (by (try dsimp only); (first | exact ⟨hS1, hS2⟩ | exact ⟨Step.of, (bcell (fut _ _)).1⟩)) (fun hHeld => ?_)
          refine wpAnyH_take (i := 0) (oi := ⟨some 42, _, _, _, _, _⟩) (v := ?_) rfl (by kernel_rfl) (by kernel_rfl) (by kernel_rfl) (fun _ _ _ h => h) (Or.inl ⟨by rfl, ?_⟩) (by assumption) ?_
          rotate_left
          · ((intro w hSw); (try dsimp only at hSw); go_simp; (try with_reducible rfl))
          (try simp only [Act.put, List.setIfInBounds_toArray, List.set_cons_zero, List.set_cons_succ])
          refine wpAnyH_take (i := 1) (oi := ⟨some 43, _, _, _, _, _⟩) (v := ?_) rfl (by kernel_rfl) (by kernel_rfl) (by kernel_rfl) (fun _ _ _ h => h) (Or.inl ⟨by rfl, ?_⟩) (by assumption) ?_
          rotate_left
          · ((intro w hSw); (try dsimp only at hSw); go_simp; (try with_reducible rfl))
          (try simp only [Act.put, List.setIfInBounds_toArray, List.set_cons_zero, List.set_cons_succ])
          refine wpAnyH_take (i := 3) (oi := ⟨some 45, _, _, _, _, _⟩) (v := ?_) rfl (by kernel_rfl) (by kernel_rfl) (by kernel_rfl) (fun _ _ _ h => h) (Or.inl ⟨by rfl, ?_⟩) (by assumption) ?_
          rotate_left
          · ((intro w hSw); (try dsimp only at hSw); go_simp; (try with_reducible rfl))
          (try simp only [Act.put, List.setIfInBounds_toArray, List.set_cons_zero, List.set_cons_succ])
          refine wpAnyH_take (i := 4) (oi := ⟨some 46, _, _, _, _, _⟩) (v := ?_) rfl (by kernel_rfl) (by kernel_rfl) (by kernel_rfl) (fun _ _ _ h => h) (Or.inl ⟨by rfl, ?_⟩) (by assumption) ?_
          rotate_left
          · ((intro w hSw); (try dsimp only at hSw); go_simp; (try with_reducible rfl))
          (try simp only [Act.put, List.setIfInBounds_toArray, List.set_cons_zero, List.set_cons_succ])
          refine wpAnyH_ready (rs := [2, 6, 7]) (by kernel_rfl) (by simp) ?_
          refine AllReadyH.cons (o := ⟨some 44, _, _, _, _, _⟩) rfl (fun K hK => ?_) (AllReadyH.cons (o := ⟨some 8, _, _, _, _, _⟩) rfl (fun K hK => ?_) (AllReadyH.cons (o := ⟨some 9, _, _, _, _, _⟩) rfl (fun K hK => ?_) AllReadyH.nil))
          · obtain ⟨hS1, hS2⟩ := hHeld
            go_simp
            (go_at_call 80; (with_reducible refine (PMN.out _).mono ?_); intro e w5 hr5; obtain ⟨rfl, hs5⟩ := hr5; have z5 := hs5.size; (try simp only [hdz] at z5); (try simp only [hsz] at z5); (try simp only [hdz] at z5))
            refine hK.out _ _ (by (try dsimp only); (first | exact ⟨hS1, hS2⟩ | exact ⟨Step.of, (bcell (fut _ _)).1⟩)) (fun hHeld => ?_)
            clear hK K
            (try simp only [Act.put, List.setIfInBounds_toArray, List.set_cons_zero, List.set_cons_succ])
            refine wpAnyH_ready (rs := [5, 6, 7]) (by kernel_rfl) (by simp) ?_
            refine AllReadyH.cons (o := ⟨some 47, _, _, _, _, _⟩) rfl (fun K hK => ?_) (AllReadyH.cons (o := ⟨some 8, _, _, _, _, _⟩) rfl (fun K hK => ?_) (AllReadyH.cons (o := ⟨some 9, _, _, _, _, _⟩) rfl (fun K hK => ?_) AllReadyH.nil))
            · obtain ⟨hS1, hS2⟩ := hHeld
              go_simp
              (go_at_call 80; (with_reducible refine (PMX.out _).mono ?_); intro e w6 hr6; obtain ⟨rfl, hs6⟩ := hr6; have z6 := hs6.size; (try simp only [hdz] at z6); (try simp only [hsz] at z6); (try simp only [hdz] at z6))
              refine hK.out _ _ (by (try dsimp only); (first | exact ⟨hS1, hS2⟩ | exact ⟨Step.of, (bcell (fut _ _)).1⟩)) (fun hHeld => ?_)
              clear hK K
              (try simp only [Act.put, List.setIfInBounds_toArray, List.set_cons_zero, List.set_cons_succ])
              refine wpAnyH_ready (rs := [6, 7]) (by kernel_rfl) (by simp) ?_
              refine AllReadyH.cons (o := ⟨some 8, _, _, _, _, _⟩) rfl (fun K hK => ?_) (AllReadyH.cons (o := ⟨some 9, _, _, _, _, _⟩) rfl (fun K hK => ?_) AllReadyH.nil)
              · go_simp
                refine hK.out _ _ (by (try dsimp only); (exact ⟨Step.of, (bcell (fut _ _)).1⟩)) (fun hHeld => ?_)
                clear hK K
                (try simp only [Act.put, List.setIfInBounds_toArray, List.set_cons_zero, List.set_cons_succ])
                refine wpAnyH_ready (rs := [7]) (by kernel_rfl) (by simp) ?_
                refine AllReadyH.cons (o := ⟨some 9, _, _, _, _, _⟩) rfl (fun K hK => ?_) AllReadyH.nil
                go_simp
                refine hK.out _ _ (by (try dsimp only); (exact ⟨Step.of, (bcell (fut _ _)).1⟩)) (fun hHeld => ?_)
                clear hK K
                (try simp only [Act.put, List.setIfInBounds_toArray, List.set_cons_zero, List.set_cons_succ])
                refine wpAnyH_ready (rs := [8]) (by kernel_rfl) (by simp) ?_
                refine AllReadyH.cons (o := ⟨none, _, _, _, _, _⟩) rfl (fun K hK => ?_) AllReadyH.nil
                go_simp
                refine hK.out _ _ (by (try dsimp only); (exact ⟨Step.of, (bcell (fut _ _)).1⟩)) (fun hHeld => ?_)
                clear hK K
                (try simp only [Act.put, List.setIfInBounds_toArray, List.set_cons_zero, List.set_cons_succ])
                refine wpAnyH_ready (rs := [9]) (by kernel_rfl) (by simp) ?_
                refine AllReadyH.cons (o := ⟨none, _, _, _, _, _⟩) rfl (fun K hK => ?_) AllReadyH.nil
                go_simp
                refine hK.out _ _ (by (try dsimp only); (exact ⟨Step.of, (bcell (fut _ _)).1⟩)) (fun hHeld => ?_)
                clear hK K
                (try simp only [Act.put, List.setIfInBounds_toArray, List.set_cons_zero, List.set_cons_succ])
                refine wpAnyH_done (by kernel_rfl) ?_ _
                go_wp2_with fail
                go_meet
                case rel =>
                  have hd := Tl0.done (base := V) (mn := mn) (mx := mx) (g8 := w6.heap.size) (g9 := w6.heap.size + 1) (wx := ((w6.alloc (.cells #[.int .i64 0, .int .i64 0, .bool false, .string ⟨#[]⟩] 57)).alloc (.cells #[.int .i64 0, .int .i64 0, .bool false, .string ⟨#[]⟩] 57))) ⟨(Blk.new w6 [.int .i64 0, .int .i64 0, .bool false, .string ⟨#[]⟩] 57).fut, (Blk.new_at (w := (w6.alloc (.cells #[.int .i64 0, .int .i64 0, .bool false, .string ⟨#[]⟩] 57))) (b := w6.heap.size + 1) (by simp) [.int .i64 0, .int .i64 0, .bool false, .string ⟨#[]⟩] 57).fut, by omega, by omega, by omega, Step.of⟩
                  refine ⟨w6.heap.size, w6.heap.size + 1, rfl, rfl, ?_⟩
                  revert hd
                  go_simp
              · go_simp
                refine hK.out _ _ (by (try dsimp only); (exact ⟨Step.of, (bcell (fut _ _)).1⟩)) (fun hHeld => ?_)
                clear hK K
                (try simp only [Act.put, List.setIfInBounds_toArray, List.set_cons_zero, List.set_cons_succ])
                refine wpAnyH_ready (rs := [6]) (by kernel_rfl) (by simp) ?_
                refine AllReadyH.cons (o := ⟨some 8, _, _, _, _, _⟩) rfl (fun K hK => ?_) AllReadyH.nil
                go_simp
                refine hK.out _ _ (by (try dsimp only); (exact ⟨Step.of, (bcell (fut _ _)).1⟩)) (fun hHeld => ?_)
                clear hK K
                (try simp only [Act.put, List.setIfInBounds_toArray, List.set_cons_zero, List.set_cons_succ])
                refine wpAnyH_ready (rs := [8]) (by kernel_rfl) (by simp) ?_
                refine AllReadyH.cons (o := ⟨none, _, _, _, _, _⟩) rfl (fun K hK => ?_) AllReadyH.nil
                go_simp
                refine hK.out _ _ (by (try dsimp only); (exact ⟨Step.of, (bcell (fut _ _)).1⟩)) (fun hHeld => ?_)
                clear hK K
                (try simp only [Act.put, List.setIfInBounds_toArray, List.set_cons_zero, List.set_cons_succ])
                refine wpAnyH_ready (rs := [9]) (by kernel_rfl) (by simp) ?_
                refine AllReadyH.cons (o := ⟨none, _, _, _, _, _⟩) rfl (fun K hK => ?_) AllReadyH.nil
                go_simp
                refine hK.out _ _ (by (try dsimp only); (exact ⟨Step.of, (bcell (fut _ _)).1⟩)) (fun hHeld => ?_)
                clear hK K
                (try simp only [Act.put, List.setIfInBounds_toArray, List.set_cons_zero, List.set_cons_succ])
                refine wpAnyH_done (by kernel_rfl) ?_ _
                go_wp2_with fail
                go_meet
                case rel =>
                  have hd := Tl0.done (base := V) (mn := mn) (mx := mx) (g8 := w6.heap.size + 1) (g9 := w6.heap.size) (wx := ((w6.alloc (.cells #[.int .i64 0, .int .i64 0, .bool false, .string ⟨#[]⟩] 57)).alloc (.cells #[.int .i64 0, .int .i64 0, .bool false, .string ⟨#[]⟩] 57))) ⟨(Blk.new_at (w := (w6.alloc (.cells #[.int .i64 0, .int .i64 0, .bool false, .string ⟨#[]⟩] 57))) (b := w6.heap.size + 1) (by simp) [.int .i64 0, .int .i64 0, .bool false, .string ⟨#[]⟩] 57).fut, (Blk.new w6 [.int .i64 0, .int .i64 0, .bool false, .string ⟨#[]⟩] 57).fut, by omega, by omega, by omega, Step.of⟩
                  refine ⟨w6.heap.size + 1, w6.heap.size, rfl, rfl, ?_⟩
                  revert hd
                  go_simp
            · go_simp
              refine hK.out _ _ (by (try dsimp only); (exact ⟨Step.of, (bcell (fut _ _)).1⟩)) (fun hHeld => ?_)
              clear hK K
              (try simp only [Act.put, List.setIfInBounds_toArray, List.set_cons_zero, List.set_cons_succ])
              refine wpAnyH_ready (rs := [5, 7]) (by kernel_rfl) (by simp) ?_
              refine AllReadyH.cons (o := ⟨some 47, _, _, _, _, _⟩) rfl (fun K hK => ?_) (AllReadyH.cons (o := ⟨some 9, _, _, _, _, _⟩) rfl (fun K hK => ?_) AllReadyH.nil)
              · obtain ⟨hS1, hS2⟩ := hHeld
                go_simp
                (go_at_call 80; (with_reducible refine (PMX.out _).mono ?_); intro e w6 hr6; obtain ⟨rfl, hs6⟩ := hr6; have z6 := hs6.size; (try simp only [hdz] at z6); (try simp only [hsz] at z6); (try simp only [hdz] at z6); have hx_ := (Blk.new w5 [.int .i64 0, .int .i64 0, .bool false, .string ⟨#[]⟩] 57).fut (w' := w6); obtain ⟨x0, x1, x2, x3⟩ := At.z4 hx_.at0; have fx := hx_.free; have lx := hx_.lt; clear hx_)
                refine hK.out _ _ (by (try dsimp only); (first | exact ⟨hS1, hS2⟩ | exact ⟨Step.of, (bcell (fut _ _)).1⟩)) (fun hHeld => ?_)
                clear hK K
                (try simp only [Act.put, List.setIfInBounds_toArray, List.set_cons_zero, List.set_cons_succ])
                refine wpAnyH_ready (rs := [7]) (by kernel_rfl) (by simp) ?_
                refine AllReadyH.cons (o := ⟨some 9, _, _, _, _, _⟩) rfl (fun K hK => ?_) AllReadyH.nil
                go_simp
                refine hK.out _ _ (by (try dsimp only); (exact ⟨Step.of, (bcell (fut _ _)).1⟩)) (fun hHeld => ?_)
                clear hK K
                (try simp only [Act.put, List.setIfInBounds_toArray, List.set_cons_zero, List.set_cons_succ])
                refine wpAnyH_ready (rs := [8]) (by kernel_rfl) (by simp) ?_
                refine AllReadyH.cons (o := ⟨none, _, _, _, _, _⟩) rfl (fun K hK => ?_) AllReadyH.nil
                go_simp
                refine hK.out _ _ (by (try dsimp only); (exact ⟨Step.of, (bcell (fut _ _)).1⟩)) (fun hHeld => ?_)
                clear hK K
                (try simp only [Act.put, List.setIfInBounds_toArray, List.set_cons_zero, List.set_cons_succ])
                refine wpAnyH_ready (rs := [9]) (by kernel_rfl) (by simp) ?_
                refine AllReadyH.cons (o := ⟨none, _, _, _, _, _⟩) rfl (fun K hK => ?_) AllReadyH.nil
                go_simp
                refine hK.out _ _ (by (try dsimp only); (exact ⟨Step.of, (bcell (fut _ _)).1⟩)) (fun hHeld => ?_)
                clear hK K
                (try simp only [Act.put, List.setIfInBounds_toArray, List.set_cons_zero, List.set_cons_succ])
                refine wpAnyH_done (by kernel_rfl) ?_ _
                go_wp2_with fail
                go_meet
                case rel =>
                  have hd := Tl0.done (base := V) (mn := mn) (mx := mx) (g8 := w5.heap.size) (g9 := w6.heap.size) (wx := (w6.alloc (.cells #[.int .i64 0, .int .i64 0, .bool false, .string ⟨#[]⟩] 57))) ⟨(Blk.new w5 [.int .i64 0, .int .i64 0, .bool false, .string ⟨#[]⟩] 57).fut, (Blk.new w6 [.int .i64 0, .int .i64 0, .bool false, .string ⟨#[]⟩] 57).fut, by omega, by omega, by omega, Step.of⟩
                  refine ⟨w5.heap.size, w6.heap.size, rfl, rfl, ?_⟩
                  revert hd
                  go_simp
              · go_simp
                refine hK.out _ _ (by (try dsimp only); (exact ⟨Step.of, (bcell (fut _ _)).1⟩)) (fun hHeld => ?_)
                clear hK K
                (try simp only [Act.put, List.setIfInBounds_toArray, List.set_cons_zero, List.set_cons_succ])
                refine wpAnyH_ready (rs := [5]) (by kernel_rfl) (by simp) ?_
                refine AllReadyH.cons (o := ⟨some 47, _, _, _, _, _⟩) rfl (fun K hK => ?_) AllReadyH.nil
                obtain ⟨hS1, hS2⟩ := hHeld
                go_simp
                (go_at_call 80; (with_reducible refine (PMX.out _).mono ?_); intro e w6 hr6; obtain ⟨rfl, hs6⟩ := hr6; have z6 := hs6.size; (try simp only [hdz] at z6); (try simp only [hsz] at z6); (try simp only [hdz] at z6); have hx_ := (Blk.new w5 [.int .i64 0, .int .i64 0, .bool false, .string ⟨#[]⟩] 57).fut (w' := w6); obtain ⟨x0, x1, x2, x3⟩ := At.z4 hx_.at0; have fx := hx_.free; have lx := hx_.lt; clear hx_; have hy_ := (Blk.new_at (w := (w5.alloc (.cells #[.int .i64 0, .int .i64 0, .bool false, .string ⟨#[]⟩] 57))) (b := w5.heap.size + 1) (by simp) [.int .i64 0, .int .i64 0, .bool false, .string ⟨#[]⟩] 57).fut (w' := w6); obtain ⟨y0, y1, y2, y3⟩ := At.z4 hy_.at0; have fy := hy_.free; have ly := hy_.lt; clear hy_)
                refine hK.out _ _ (by (try dsimp only); (first | exact ⟨hS1, hS2⟩ | exact ⟨Step.of, (bcell (fut _ _)).1⟩)) (fun hHeld => ?_)
                clear hK K
                (try simp only [Act.put, List.setIfInBounds_toArray, List.set_cons_zero, List.set_cons_succ])
                refine wpAnyH_ready (rs := [8]) (by kernel_rfl) (by simp) ?_
                refine AllReadyH.cons (o := ⟨none, _, _, _, _, _⟩) rfl (fun K hK => ?_) AllReadyH.nil
                go_simp
                refine hK.out _ _ (by (try dsimp only); (exact ⟨Step.of, (bcell (fut _ _)).1⟩)) (fun hHeld => ?_)
                clear hK K
                (try simp only [Act.put, List.setIfInBounds_toArray, List.set_cons_zero, List.set_cons_succ])
                refine wpAnyH_ready (rs := [9]) (by kernel_rfl) (by simp) ?_
                refine AllReadyH.cons (o := ⟨none, _, _, _, _, _⟩) rfl (fun K hK => ?_) AllReadyH.nil
                go_simp
                refine hK.out _ _ (by (try dsimp only); (exact ⟨Step.of, (bcell (fut _ _)).1⟩)) (fun hHeld => ?_)
                clear hK K
                (try simp only [Act.put, List.setIfInBounds_toArray, List.set_cons_zero, List.set_cons_succ])
                refine wpAnyH_done (by kernel_rfl) ?_ _
                go_wp2_with fail
                go_meet
                case rel =>
                  have hd := Tl0.done (base := V) (mn := mn) (mx := mx) (g8 := w5.heap.size) (g9 := w5.heap.size + 1) (wx := w6) ⟨(Blk.new w5 [.int .i64 0, .int .i64 0, .bool false, .string ⟨#[]⟩] 57).fut, (Blk.new_at (w := (w5.alloc (.cells #[.int .i64 0, .int .i64 0, .bool false, .string ⟨#[]⟩] 57))) (b := w5.heap.size + 1) (by simp) [.int .i64 0, .int .i64 0, .bool false, .string ⟨#[]⟩] 57).fut, by omega, by omega, by omega, Step.of⟩
                  refine ⟨w5.heap.size, w5.heap.size + 1, rfl, rfl, ?_⟩
                  revert hd
                  go_simp
            · go_simp
              refine hK.out _ _ (by (try dsimp only); (exact ⟨Step.of, (bcell (fut _ _)).1⟩)) (fun hHeld => ?_)
              clear hK K
              (try simp only [Act.put, List.setIfInBounds_toArray, List.set_cons_zero, List.set_cons_succ])
              refine wpAnyH_ready (rs := [5, 6]) (by kernel_rfl) (by simp) ?_
              refine AllReadyH.cons (o := ⟨some 47, _, _, _, _, _⟩) rfl (fun K hK => ?_) (AllReadyH.cons (o := ⟨some 8, _, _, _, _, _⟩) rfl (fun K hK => ?_) AllReadyH.nil)
              · obtain ⟨hS1, hS2⟩ := hHeld
                go_simp
                (go_at_call 80; (with_reducible refine (PMX.out _).mono ?_); intro e w6 hr6; obtain ⟨rfl, hs6⟩ := hr6; have z6 := hs6.size; (try simp only [hdz] at z6); (try simp only [hsz] at z6); (try simp only [hdz] at z6); have hy_ := (Blk.new w5 [.int .i64 0, .int .i64 0, .bool false, .string ⟨#[]⟩] 57).fut (w' := w6); obtain ⟨y0, y1, y2, y3⟩ := At.z4 hy_.at0; have fy := hy_.free; have ly := hy_.lt; clear hy_)
                refine hK.out _ _ (by (try dsimp only); (first | exact ⟨hS1, hS2⟩ | exact ⟨Step.of, (bcell (fut _ _)).1⟩)) (fun hHeld => ?_)
                clear hK K
                (try simp only [Act.put, List.setIfInBounds_toArray, List.set_cons_zero, List.set_cons_succ])
                refine wpAnyH_ready (rs := [6]) (by kernel_rfl) (by simp) ?_
                refine AllReadyH.cons (o := ⟨some 8, _, _, _, _, _⟩) rfl (fun K hK => ?_) AllReadyH.nil
                go_simp
                refine hK.out _ _ (by (try dsimp only); (exact ⟨Step.of, (bcell (fut _ _)).1⟩)) (fun hHeld => ?_)
                clear hK K
                (try simp only [Act.put, List.setIfInBounds_toArray, List.set_cons_zero, List.set_cons_succ])
                refine wpAnyH_ready (rs := [8]) (by kernel_rfl) (by simp) ?_
                refine AllReadyH.cons (o := ⟨none, _, _, _, _, _⟩) rfl (fun K hK => ?_) AllReadyH.nil
                go_simp
                refine hK.out _ _ (by (try dsimp only); (exact ⟨Step.of, (bcell (fut _ _)).1⟩)) (fun hHeld => ?_)
                clear hK K
                (try simp only [Act.put, List.setIfInBounds_toArray, List.set_cons_zero, List.set_cons_succ])
                refine wpAnyH_ready (rs := [9]) (by kernel_rfl) (by simp) ?_
                refine AllReadyH.cons (o := ⟨none, _, _, _, _, _⟩) rfl (fun K hK => ?_) AllReadyH.nil
                go_simp
                refine hK.out _ _ (by (try dsimp only); (exact ⟨Step.of, (bcell (fut _ _)).1⟩)) (fun hHeld => ?_)
                clear hK K
                (try simp only [Act.put, List.setIfInBounds_toArray, List.set_cons_zero, List.set_cons_succ])
                refine wpAnyH_done (by kernel_rfl) ?_ _
                go_wp2_with fail
                go_meet
                case rel =>
                  have hd := Tl0.done (base := V) (mn := mn) (mx := mx) (g8 := w6.heap.size) (g9 := w5.heap.size) (wx := (w6.alloc (.cells #[.int .i64 0, .int .i64 0, .bool false, .string ⟨#[]⟩] 57))) ⟨(Blk.new w6 [.int .i64 0, .int .i64 0, .bool false, .string ⟨#[]⟩] 57).fut, (Blk.new w5 [.int .i64 0, .int .i64 0, .bool false, .string ⟨#[]⟩] 57).fut, by omega, by omega, by omega, Step.of⟩
                  refine ⟨w6.heap.size, w5.heap.size, rfl, rfl, ?_⟩
                  revert hd
                  go_simp
              · go_simp
                refine hK.out _ _ (by (try dsimp only); (exact ⟨Step.of, (bcell (fut _ _)).1⟩)) (fun hHeld => ?_)
                clear hK K
                (try simp only [Act.put, List.setIfInBounds_toArray, List.set_cons_zero, List.set_cons_succ])
                refine wpAnyH_ready (rs := [5]) (by kernel_rfl) (by simp) ?_
                refine AllReadyH.cons (o := ⟨some 47, _, _, _, _, _⟩) rfl (fun K hK => ?_) AllReadyH.nil
                obtain ⟨hS1, hS2⟩ := hHeld
                go_simp
                (go_at_call 80; (with_reducible refine (PMX.out _).mono ?_); intro e w6 hr6; obtain ⟨rfl, hs6⟩ := hr6; have z6 := hs6.size; (try simp only [hdz] at z6); (try simp only [hsz] at z6); (try simp only [hdz] at z6); have hx_ := (Blk.new_at (w := (w5.alloc (.cells #[.int .i64 0, .int .i64 0, .bool false, .string ⟨#[]⟩] 57))) (b := w5.heap.size + 1) (by simp) [.int .i64 0, .int .i64 0, .bool false, .string ⟨#[]⟩] 57).fut (w' := w6); obtain ⟨x0, x1, x2, x3⟩ := At.z4 hx_.at0; have fx := hx_.free; have lx := hx_.lt; clear hx_; have hy_ := (Blk.new w5 [.int .i64 0, .int .i64 0, .bool false, .string ⟨#[]⟩] 57).fut (w' := w6); obtain ⟨y0, y1, y2, y3⟩ := At.z4 hy_.at0; have fy := hy_.free; have ly := hy_.lt; clear hy_)
                refine hK.out _ _ (by (try dsimp only); (first | exact ⟨hS1, hS2⟩ | exact ⟨Step.of, (bcell (fut _ _)).1⟩)) (fun hHeld => ?_)
                clear hK K
                (try simp only [Act.put, List.setIfInBounds_toArray, List.set_cons_zero, List.set_cons_succ])
                refine wpAnyH_ready (rs := [8]) (by kernel_rfl) (by simp) ?_
                refine AllReadyH.cons (o := ⟨none, _, _, _, _, _⟩) rfl (fun K hK => ?_) AllReadyH.nil
                go_simp
                refine hK.out _ _ (by (try dsimp only); (exact ⟨Step.of, (bcell (fut _ _)).1⟩)) (fun hHeld => ?_)
                clear hK K
                (try simp only [Act.put, List.setIfInBounds_toArray, List.set_cons_zero, List.set_cons_succ])
                refine wpAnyH_ready (rs := [9]) (by kernel_rfl) (by simp) ?_
                refine AllReadyH.cons (o := ⟨none, _, _, _, _, _⟩) rfl (fun K hK => ?_) AllReadyH.nil
                go_simp
                refine hK.out _ _ (by (try dsimp only); (exact ⟨Step.of, (bcell (fut _ _)).1⟩)) (fun hHeld => ?_)
                clear hK K
                (try simp only [Act.put, List.setIfInBounds_toArray, List.set_cons_zero, List.set_cons_succ])
                refine wpAnyH_done (by kernel_rfl) ?_ _
                go_wp2_with fail
                go_meet
                case rel =>
                  have hd := Tl0.done (base := V) (mn := mn) (mx := mx) (g8 := w5.heap.size + 1) (g9 := w5.heap.size) (wx := w6) ⟨(Blk.new_at (w := (w5.alloc (.cells #[.int .i64 0, .int .i64 0, .bool false, .string ⟨#[]⟩] 57))) (b := w5.heap.size + 1) (by simp) [.int .i64 0, .int .i64 0, .bool false, .string ⟨#[]⟩] 57).fut, (Blk.new w5 [.int .i64 0, .int .i64 0, .bool false, .string ⟨#[]⟩] 57).fut, by omega, by omega, by omega, Step.of⟩
                  refine ⟨w5.heap.size + 1, w5.heap.size, rfl, rfl, ?_⟩
                  revert hd
                  go_simp
          · go_simp
            refine hK.out _ _ (by (try dsimp only); (exact ⟨Step.of, (bcell (fut _ _)).1⟩)) (fun hHeld => ?_)
            clear hK K
            (try simp only [Act.put, List.setIfInBounds_toArray, List.set_cons_zero, List.set_cons_succ])
            refine wpAnyH_ready (rs := [2, 7]) (by kernel_rfl) (by simp) ?_
            refine AllReadyH.cons (o := ⟨some 44, _, _, _, _, _⟩) rfl (fun K hK => ?_) (AllReadyH.cons (o := ⟨some 9, _, _, _, _, _⟩) rfl (fun K hK => ?_) AllReadyH.nil)
            · obtain ⟨hS1, hS2⟩ := hHeld
              go_simp
              (go_at_call 80; (with_reducible refine (PMN.out _).mono ?_); intro e w5 hr5; obtain ⟨rfl, hs5⟩ := hr5; have z5 := hs5.size; (try simp only [hdz] at z5); (try simp only [hsz] at z5); (try simp only [hdz] at z5); have hx_ := (Blk.new V [.int .i64 0, .int .i64 0, .bool false, .string ⟨#[]⟩] 57).fut (w' := w5); obtain ⟨x0, x1, x2, x3⟩ := At.z4 hx_.at0; have fx := hx_.free; have lx := hx_.lt; clear hx_)
              refine hK.out _ _ (by (try dsimp only); (first | exact ⟨hS1, hS2⟩ | exact ⟨Step.of, (bcell (fut _ _)).1⟩)) (fun hHeld => ?_)
              clear hK K
              (try simp only [Act.put, List.setIfInBounds_toArray, List.set_cons_zero, List.set_cons_succ])
              refine wpAnyH_ready (rs := [5, 7]) (by kernel_rfl) (by simp) ?_
              refine AllReadyH.cons (o := ⟨some 47, _, _, _, _, _⟩) rfl (fun K hK => ?_) (AllReadyH.cons (o := ⟨some 9, _, _, _, _, _⟩) rfl (fun K hK => ?_) AllReadyH.nil)
              · obtain ⟨hS1, hS2⟩ := hHeld
                go_simp
                (go_at_call 80; (with_reducible refine (PMX.out _).mono ?_); intro e w6 hr6; obtain ⟨rfl, hs6⟩ := hr6; have z6 := hs6.size; (try simp only [hdz] at z6); (try simp only [hsz] at z6); (try simp only [hdz] at z6); clear x0 x1 x2 x3 fx lx; have hx_ := (Blk.new V [.int .i64 0, .int .i64 0, .bool false, .string ⟨#[]⟩] 57).fut (w' := w6); obtain ⟨x0, x1, x2, x3⟩ := At.z4 hx_.at0; have fx := hx_.free; have lx := hx_.lt; clear hx_)
                refine hK.out _ _ (by (try dsimp only); (first | exact ⟨hS1, hS2⟩ | exact ⟨Step.of, (bcell (fut _ _)).1⟩)) (fun hHeld => ?_)
                clear hK K
                (try simp only [Act.put, List.setIfInBounds_toArray, List.set_cons_zero, List.set_cons_succ])
                refine wpAnyH_ready (rs := [7]) (by kernel_rfl) (by simp) ?_
                refine AllReadyH.cons (o := ⟨some 9, _, _, _, _, _⟩) rfl (fun K hK => ?_) AllReadyH.nil
                go_simp
                refine hK.out _ _ (by (try dsimp only); (exact ⟨Step.of, (bcell (fut _ _)).1⟩)) (fun hHeld => ?_)
                clear hK K
                (try simp only [Act.put, List.setIfInBounds_toArray, List.set_cons_zero, List.set_cons_succ])
                refine wpAnyH_ready (rs := [8]) (by kernel_rfl) (by simp) ?_
                refine AllReadyH.cons (o := ⟨none, _, _, _, _, _⟩) rfl (fun K hK => ?_) AllReadyH.nil
                go_simp
                refine hK.out _ _ (by (try dsimp only); (exact ⟨Step.of, (bcell (fut _ _)).1⟩)) (fun hHeld => ?_)
                clear hK K
                (try simp only [Act.put, List.setIfInBounds_toArray, List.set_cons_zero, List.set_cons_succ])
                refine wpAnyH_ready (rs := [9]) (by kernel_rfl) (by simp) ?_
                refine AllReadyH.cons (o := ⟨none, _, _, _, _, _⟩) rfl (fun K hK => ?_) AllReadyH.nil
                go_simp
                refine hK.out _ _ (by (try dsimp only); (exact ⟨Step.of, (bcell (fut _ _)).1⟩)) (fun hHeld => ?_)
                clear hK K
                (try simp only [Act.put, List.setIfInBounds_toArray, List.set_cons_zero, List.set_cons_succ])
                refine wpAnyH_done (by kernel_rfl) ?_ _
                go_wp2_with fail
                go_meet
                case rel =>
                  have hd := Tl0.done (base := V) (mn := mn) (mx := mx) (g8 := V.heap.size) (g9 := w6.heap.size) (wx := (w6.alloc (.cells #[.int .i64 0, .int .i64 0, .bool false, .string ⟨#[]⟩] 57))) ⟨(Blk.new V [.int .i64 0, .int .i64 0, .bool false, .string ⟨#[]⟩] 57).fut, (Blk.new w6 [.int .i64 0, .int .i64 0, .bool false, .string ⟨#[]⟩] 57).fut, by omega, by omega, by omega, Step.of⟩
                  refine ⟨V.heap.size, w6.heap.size, rfl, rfl, ?_⟩
                  revert hd
                  go_simp
              · go_simp
                refine hK.out _ _ (by (try dsimp only); (exact ⟨Step.of, (bcell (fut _ _)).1⟩)) (fun hHeld => ?_)
                clear hK K
                (try simp only [Act.put, List.setIfInBounds_toArray, List.set_cons_zero, List.set_cons_succ])
                refine wpAnyH_ready (rs := [5]) (by kernel_rfl) (by simp) ?_
                refine AllReadyH.cons (o := ⟨some 47, _, _, _, _, _⟩) rfl (fun K hK => ?_) AllReadyH.nil
                obtain ⟨hS1, hS2⟩ := hHeld
                go_simp
                (go_at_call 80; (with_reducible refine (PMX.out _).mono ?_); intro e w6 hr6; obtain ⟨rfl, hs6⟩ := hr6; have z6 := hs6.size; (try simp only [hdz] at z6); (try simp only [hsz] at z6); (try simp only [hdz] at z6); clear x0 x1 x2 x3 fx lx; have hx_ := (Blk.new V [.int .i64 0, .int .i64 0, .bool false, .string ⟨#[]⟩] 57).fut (w' := w6); obtain ⟨x0, x1, x2, x3⟩ := At.z4 hx_.at0; have fx := hx_.free; have lx := hx_.lt; clear hx_; have hy_ := (Blk.new w5 [.int .i64 0, .int .i64 0, .bool false, .string ⟨#[]⟩] 57).fut (w' := w6); obtain ⟨y0, y1, y2, y3⟩ := At.z4 hy_.at0; have fy := hy_.free; have ly := hy_.lt; clear hy_)
                refine hK.out _ _ (by (try dsimp only); (first | exact ⟨hS1, hS2⟩ | exact ⟨Step.of, (bcell (fut _ _)).1⟩)) (fun hHeld => ?_)
                clear hK K
                (try simp only [Act.put, List.setIfInBounds_toArray, List.set_cons_zero, List.set_cons_succ])
                refine wpAnyH_ready (rs := [8]) (by kernel_rfl) (by simp) ?_
                refine AllReadyH.cons (o := ⟨none, _, _, _, _, _⟩) rfl (fun K hK => ?_) AllReadyH.nil
                go_simp
                refine hK.out _ _ (by (try dsimp only); (exact ⟨Step.of, (bcell (fut _ _)).1⟩)) (fun hHeld => ?_)
                clear hK K
                (try simp only [Act.put, List.setIfInBounds_toArray, List.set_cons_zero, List.set_cons_succ])
                refine wpAnyH_ready (rs := [9]) (by kernel_rfl) (by simp) ?_
                refine AllReadyH.cons (o := ⟨none, _, _, _, _, _⟩) rfl (fun K hK => ?_) AllReadyH.nil
                go_simp
                refine hK.out _ _ (by (try dsimp only); (exact ⟨Step.of, (bcell (fut _ _)).1⟩)) (fun hHeld => ?_)
                clear hK K
                (try simp only [Act.put, List.setIfInBounds_toArray, List.set_cons_zero, List.set_cons_succ])
                refine wpAnyH_done (by kernel_rfl) ?_ _
                go_wp2_with fail
                go_meet
                case rel =>
                  have hd := Tl0.done (base := V) (mn := mn) (mx := mx) (g8 := V.heap.size) (g9 := w5.heap.size) (wx := w6) ⟨(Blk.new V [.int .i64 0, .int .i64 0, .bool false, .string ⟨#[]⟩] 57).fut, (Blk.new w5 [.int .i64 0, .int .i64 0, .bool false, .string ⟨#[]⟩] 57).fut, by omega, by omega, by omega, Step.of⟩
                  refine ⟨V.heap.size, w5.heap.size, rfl, rfl, ?_⟩
                  revert hd
                  go_simp
            · go_simp
              refine hK.out _ _ (by (try dsimp only); (exact ⟨Step.of, (bcell (fut _ _)).1⟩)) (fun hHeld => ?_)
              clear hK K
              (try simp only [Act.put, List.setIfInBounds_toArray, List.set_cons_zero, List.set_cons_succ])
              refine wpAnyH_ready (rs := [2]) (by kernel_rfl) (by simp) ?_
              refine AllReadyH.cons (o := ⟨some 44, _, _, _, _, _⟩) rfl (fun K hK => ?_) AllReadyH.nil
              obtain ⟨hS1, hS2⟩ := hHeld
              go_simp
              (go_at_call 80; (with_reducible refine (PMN.out _).mono ?_); intro e w5 hr5; obtain ⟨rfl, hs5⟩ := hr5; have z5 := hs5.size; (try simp only [hdz] at z5); (try simp only [hsz] at z5); (try simp only [hdz] at z5); have hx_ := (Blk.new V [.int .i64 0, .int .i64 0, .bool false, .string ⟨#[]⟩] 57).fut (w' := w5); obtain ⟨x0, x1, x2, x3⟩ := At.z4 hx_.at0; have fx := hx_.free; have lx := hx_.lt; clear hx_; have hy_ := (Blk.new_at (w := (V.alloc (.cells #[.int .i64 0, .int .i64 0, .bool false, .string ⟨#[]⟩] 57))) (b := V.heap.size + 1) (by simp) [.int .i64 0, .int .i64 0, .bool false, .string ⟨#[]⟩] 57).fut (w' := w5); obtain ⟨y0, y1, y2, y3⟩ := At.z4 hy_.at0; have fy := hy_.free; have ly := hy_.lt; clear hy_)
              refine hK.out _ _ (by (try dsimp only); (first | exact ⟨hS1, hS2⟩ | exact ⟨Step.of, (bcell (fut _ _)).1⟩)) (fun hHeld => ?_)
              clear hK K
              (try simp only [Act.put, List.setIfInBounds_toArray, List.set_cons_zero, List.set_cons_succ])
              refine wpAnyH_ready (rs := [5]) (by kernel_rfl) (by simp) ?_
              refine AllReadyH.cons (o := ⟨some 47, _, _, _, _, _⟩) rfl (fun K hK => ?_) AllReadyH.nil
              obtain ⟨hS1, hS2⟩ := hHeld
              go_simp
              (go_at_call 80; (with_reducible refine (PMX.out _).mono ?_); intro e w6 hr6; obtain ⟨rfl, hs6⟩ := hr6; have z6 := hs6.size; (try simp only [hdz] at z6); (try simp only [hsz] at z6); (try simp only [hdz] at z6); clear x0 x1 x2 x3 fx lx y0 y1 y2 y3 fy ly; have hx_ := (Blk.new V [.int .i64 0, .int .i64 0, .bool false, .string ⟨#[]⟩] 57).fut (w' := w6); obtain ⟨x0, x1, x2, x3⟩ := At.z4 hx_.at0; have fx := hx_.free; have lx := hx_.lt; clear hx_; have hy_ := (Blk.new_at (w := (V.alloc (.cells #[.int .i64 0, .int .i64 0, .bool false, .string ⟨#[]⟩] 57))) (b := V.heap.size + 1) (by simp) [.int .i64 0, .int .i64 0, .bool false, .string ⟨#[]⟩] 57).fut (w' := w6); obtain ⟨y0, y1, y2, y3⟩ := At.z4 hy_.at0; have fy := hy_.free; have ly := hy_.lt; clear hy_)
              refine hK.out _ _ (by (try dsimp only); (first | exact ⟨hS1, hS2⟩ | exact ⟨Step.of, (bcell (fut _ _)).1⟩)) (fun hHeld => ?_)
              clear hK K
              (try simp only [Act.put, List.setIfInBounds_toArray, List.set_cons_zero, List.set_cons_succ])
              refine wpAnyH_ready (rs := [8]) (by kernel_rfl) (by simp) ?_
              refine AllReadyH.cons (o := ⟨none, _, _, _, _, _⟩) rfl (fun K hK => ?_) AllReadyH.nil
              go_simp
              refine hK.out _ _ (by (try dsimp only); (exact ⟨Step.of, (bcell (fut _ _)).1⟩)) (fun hHeld => ?_)
              clear hK K
              (try simp only [Act.put, List.setIfInBounds_toArray, List.set_cons_zero, List.set_cons_succ])
              refine wpAnyH_ready (rs := [9]) (by kernel_rfl) (by simp) ?_
              refine AllReadyH.cons (o := ⟨none, _, _, _, _, _⟩) rfl (fun K hK => ?_) AllReadyH.nil
              go_simp
              refine hK.out _ _ (by (try dsimp only); (exact ⟨Step.of, (bcell (fut _ _)).1⟩)) (fun hHeld => ?_)
              clear hK K
              (try simp only [Act.put, List.setIfInBounds_toArray, List.set_cons_zero, List.set_cons_succ])
              refine wpAnyH_done (by kernel_rfl) ?_ _
              go_wp2_with fail
              go_meet
              case rel =>
                have hd := Tl0.done (base := V) (mn := mn) (mx := mx) (g8 := V.heap.size) (g9 := V.heap.size + 1) (wx := w6) ⟨(Blk.new V [.int .i64 0, .int .i64 0, .bool false, .string ⟨#[]⟩] 57).fut, (Blk.new_at (w := (V.alloc (.cells #[.int .i64 0, .int .i64 0, .bool false, .string ⟨#[]⟩] 57))) (b := V.heap.size + 1) (by simp) [.int .i64 0, .int .i64 0, .bool false, .string ⟨#[]⟩] 57).fut, by omega, by omega, by omega, Step.of⟩
                refine ⟨V.heap.size, V.heap.size + 1, rfl, rfl, ?_⟩
                revert hd
                go_simp
          · go_simp
            refine hK.out _ _ (by (try dsimp only); (exact ⟨Step.of, (bcell (fut _ _)).1⟩)) (fun hHeld => ?_)
            clear hK K
            (try simp only [Act.put, List.setIfInBounds_toArray, List.set_cons_zero, List.set_cons_succ])
            refine wpAnyH_ready (rs := [2, 6]) (by kernel_rfl) (by simp) ?_
            refine AllReadyH.cons (o := ⟨some 44, _, _, _, _, _⟩) rfl (fun K hK => ?_) (AllReadyH.cons (o := ⟨some 8, _, _, _, _, _⟩) rfl (fun K hK => ?_) AllReadyH.nil)
            · obtain ⟨hS1, hS2⟩ := hHeld
              go_simp
              (go_at_call 80; (with_reducible refine (PMN.out _).mono ?_); intro e w5 hr5; obtain ⟨rfl, hs5⟩ := hr5; have z5 := hs5.size; (try simp only [hdz] at z5); (try simp only [hsz] at z5); (try simp only [hdz] at z5); have hy_ := (Blk.new V [.int .i64 0, .int .i64 0, .bool false, .string ⟨#[]⟩] 57).fut (w' := w5); obtain ⟨y0, y1, y2, y3⟩ := At.z4 hy_.at0; have fy := hy_.free; have ly := hy_.lt; clear hy_)
              refine hK.out _ _ (by (try dsimp only); (first | exact ⟨hS1, hS2⟩ | exact ⟨Step.of, (bcell (fut _ _)).1⟩)) (fun hHeld => ?_)
              clear hK K
              (try simp only [Act.put, List.setIfInBounds_toArray, List.set_cons_zero, List.set_cons_succ])
              refine wpAnyH_ready (rs := [5, 6]) (by kernel_rfl) (by simp) ?_
              refine AllReadyH.cons (o := ⟨some 47, _, _, _, _, _⟩) rfl (fun K hK => ?_) (AllReadyH.cons (o := ⟨some 8, _, _, _, _, _⟩) rfl (fun K hK => ?_) AllReadyH.nil)
              · obtain ⟨hS1, hS2⟩ := hHeld
                go_simp
                (go_at_call 80; (with_reducible refine (PMX.out _).mono ?_); intro e w6 hr6; obtain ⟨rfl, hs6⟩ := hr6; have z6 := hs6.size; (try simp only [hdz] at z6); (try simp only [hsz] at z6); (try simp only [hdz] at z6); clear y0 y1 y2 y3 fy ly; have hy_ := (Blk.new V [.int .i64 0, .int .i64 0, .bool false, .string ⟨#[]⟩] 57).fut (w' := w6); obtain ⟨y0, y1, y2, y3⟩ := At.z4 hy_.at0; have fy := hy_.free; have ly := hy_.lt; clear hy_)
                refine hK.out _ _ (by (try dsimp only); (first | exact ⟨hS1, hS2⟩ | exact ⟨Step.of, (bcell (fut _ _)).1⟩)) (fun hHeld => ?_)
                clear hK K
                (try simp only [Act.put, List.setIfInBounds_toArray, List.set_cons_zero, List.set_cons_succ])
                refine wpAnyH_ready (rs := [6]) (by kernel_rfl) (by simp) ?_
                refine AllReadyH.cons (o := ⟨some 8, _, _, _, _, _⟩) rfl (fun K hK => ?_) AllReadyH.nil
                go_simp
                refine hK.out _ _ (by (try dsimp only); (exact ⟨Step.of, (bcell (fut _ _)).1⟩)) (fun hHeld => ?_)
                clear hK K
                (try simp only [Act.put, List.setIfInBounds_toArray, List.set_cons_zero, List.set_cons_succ])
                refine wpAnyH_ready (rs := [8]) (by kernel_rfl) (by simp) ?_
                refine AllReadyH.cons (o := ⟨none, _, _, _, _, _⟩) rfl (fun K hK => ?_) AllReadyH.nil
                go_simp
                refine hK.out _ _ (by (try dsimp only); (exact ⟨Step.of, (bcell (fut _ _)).1⟩)) (fun hHeld => ?_)
                clear hK K
                (try simp only [Act.put, List.setIfInBounds_toArray, List.set_cons_zero, List.set_cons_succ])
                refine wpAnyH_ready (rs := [9]) (by kernel_rfl) (by simp) ?_
                refine AllReadyH.cons (o := ⟨none, _, _, _, _, _⟩) rfl (fun K hK => ?_) AllReadyH.nil
                go_simp
                refine hK.out _ _ (by (try dsimp only); (exact ⟨Step.of, (bcell (fut _ _)).1⟩)) (fun hHeld => ?_)
                clear hK K
                (try simp only [Act.put, List.setIfInBounds_toArray, List.set_cons_zero, List.set_cons_succ])
                refine wpAnyH_done (by kernel_rfl) ?_ _
                go_wp2_with fail
                go_meet
                case rel =>
                  have hd := Tl0.done (base := V) (mn := mn) (mx := mx) (g8 := w6.heap.size) (g9 := V.heap.size) (wx := (w6.alloc (.cells #[.int .i64 0, .int .i64 0, .bool false, .string ⟨#[]⟩] 57))) ⟨(Blk.new w6 [.int .i64 0, .int .i64 0, .bool false, .string ⟨#[]⟩] 57).fut, (Blk.new V [.int .i64 0, .int .i64 0, .bool false, .string ⟨#[]⟩] 57).fut, by omega, by omega, by omega, Step.of⟩
                  refine ⟨w6.heap.size, V.heap.size, rfl, rfl, ?_⟩
                  revert hd
                  go_simp
              · go_simp
                refine hK.out _ _ (by (try dsimp only); (exact ⟨Step.of, (bcell (fut _ _)).1⟩)) (fun hHeld => ?_)
                clear hK K
                (try simp only [Act.put, List.setIfInBounds_toArray, List.set_cons_zero, List.set_cons_succ])
                refine wpAnyH_ready (rs := [5]) (by kernel_rfl) (by simp) ?_
                refine AllReadyH.cons (o := ⟨some 47, _, _, _, _, _⟩) rfl (fun K hK => ?_) AllReadyH.nil
                obtain ⟨hS1, hS2⟩ := hHeld
                go_simp
                (go_at_call 80; (with_reducible refine (PMX.out _).mono ?_); intro e w6 hr6; obtain ⟨rfl, hs6⟩ := hr6; have z6 := hs6.size; (try simp only [hdz] at z6); (try simp only [hsz] at z6); (try simp only [hdz] at z6); clear y0 y1 y2 y3 fy ly; have hx_ := (Blk.new w5 [.int .i64 0, .int .i64 0, .bool false, .string ⟨#[]⟩] 57).fut (w' := w6); obtain ⟨x0, x1, x2, x3⟩ := At.z4 hx_.at0; have fx := hx_.free; have lx := hx_.lt; clear hx_; have hy_ := (Blk.new V [.int .i64 0, .int .i64 0, .bool false, .string ⟨#[]⟩] 57).fut (w' := w6); obtain ⟨y0, y1, y2, y3⟩ := At.z4 hy_.at0; have fy := hy_.free; have ly := hy_.lt; clear hy_)
                refine hK.out _ _ (by (try dsimp only); (first | exact ⟨hS1, hS2⟩ | exact ⟨Step.of, (bcell (fut _ _)).1⟩)) (fun hHeld => ?_)
                clear hK K
                (try simp only [Act.put, List.setIfInBounds_toArray, List.set_cons_zero, List.set_cons_succ])
                refine wpAnyH_ready (rs := [8]) (by kernel_rfl) (by simp) ?_
                refine AllReadyH.cons (o := ⟨none, _, _, _, _, _⟩) rfl (fun K hK => ?_) AllReadyH.nil
                go_simp
                refine hK.out _ _ (by (try dsimp only); (exact ⟨Step.of, (bcell (fut _ _)).1⟩)) (fun hHeld => ?_)
                clear hK K
                (try simp only [Act.put, List.setIfInBounds_toArray, List.set_cons_zero, List.set_cons_succ])
                refine wpAnyH_ready (rs := [9]) (by kernel_rfl) (by simp) ?_
                refine AllReadyH.cons (o := ⟨none, _, _, _, _, _⟩) rfl (fun K hK => ?_) AllReadyH.nil
                go_simp
                refine hK.out _ _ (by (try dsimp only); (exact ⟨Step.of, (bcell (fut _ _)).1⟩)) (fun hHeld => ?_)
                clear hK K
                (try simp only [Act.put, List.setIfInBounds_toArray, List.set_cons_zero, List.set_cons_succ])
                refine wpAnyH_done (by kernel_rfl) ?_ _
                go_wp2_with fail
                go_meet
                case rel =>
                  have hd := Tl0.done (base := V) (mn := mn) (mx := mx) (g8 := w5.heap.size) (g9 := V.heap.size) (wx := w6) ⟨(Blk.new w5 [.int .i64 0, .int .i64 0, .bool false, .string ⟨#[]⟩] 57).fut, (Blk.new V [.int .i64 0, .int .i64 0, .bool false, .string ⟨#[]⟩] 57).fut, by omega, by omega, by omega, Step.of⟩
                  refine ⟨w5.heap.size, V.heap.size, rfl, rfl, ?_⟩
                  revert hd
                  go_simp
            · go_simp
              refine hK.out _ _ (by (try dsimp only); (exact ⟨Step.of, (bcell (fut _ _)).1⟩)) (fun hHeld => ?_)
              clear hK K
              (try simp only [Act.put, List.setIfInBounds_toArray, List.set_cons_zero, List.set_cons_succ])
              refine wpAnyH_ready (rs := [2]) (by kernel_rfl) (by simp) ?_
              refine AllReadyH.cons (o := ⟨some 44, _, _, _, _, _⟩) rfl (fun K hK => ?_) AllReadyH.nil
              obtain ⟨hS1, hS2⟩ := hHeld
              go_simp
              (go_at_call 80; (with_reducible refine (PMN.out _).mono ?_); intro e w5 hr5; obtain ⟨rfl, hs5⟩ := hr5; have z5 := hs5.size; (try simp only [hdz] at z5); (try simp only [hsz] at z5); (try simp only [hdz] at z5); have hx_ := (Blk.new_at (w := (V.alloc (.cells #[.int .i64 0, .int .i64 0, .bool false, .string ⟨#[]⟩] 57))) (b := V.heap.size + 1) (by simp) [.int .i64 0, .int .i64 0, .bool false, .string ⟨#[]⟩] 57).fut (w' := w5); obtain ⟨x0, x1, x2, x3⟩ := At.z4 hx_.at0; have fx := hx_.free; have lx := hx_.lt; clear hx_; have hy_ := (Blk.new V [.int .i64 0, .int .i64 0, .bool false, .string ⟨#[]⟩] 57).fut (w' := w5); obtain ⟨y0, y1, y2, y3⟩ := At.z4 hy_.at0; have fy := hy_.free; have ly := hy_.lt; clear hy_)
              refine hK.out _ _ (by (try dsimp only); (first | exact ⟨hS1, hS2⟩ | exact ⟨Step.of, (bcell (fut _ _)).1⟩)) (fun hHeld => ?_)
              clear hK K
              (try simp only [Act.put, List.setIfInBounds_toArray, List.set_cons_zero, List.set_cons_succ])
              refine wpAnyH_ready (rs := [5]) (by kernel_rfl) (by simp) ?_
              refine AllReadyH.cons (o := ⟨some 47, _, _, _, _, _⟩) rfl (fun K hK => ?_) AllReadyH.nil
              obtain ⟨hS1, hS2⟩ := hHeld
              go_simp
              (go_at_call 80; (with_reducible refine (PMX.out _).mono ?_); intro e w6 hr6; obtain ⟨rfl, hs6⟩ := hr6; have z6 := hs6.size; (try simp only [hdz] at z6); (try simp only [hsz] at z6); (try simp only [hdz] at z6); clear x0 x1 x2 x3 fx lx y0 y1 y2 y3 fy ly; have hx_ := (Blk.new_at (w := (V.alloc (.cells #[.int .i64 0, .int .i64 0, .bool false, .string ⟨#[]⟩] 57))) (b := V.heap.size + 1) (by simp) [.int .i64 0, .int .i64 0, .bool false, .string ⟨#[]⟩] 57).fut (w' := w6); obtain ⟨x0, x1, x2, x3⟩ := At.z4 hx_.at0; have fx := hx_.free; have lx := hx_.lt; clear hx_; have hy_ := (Blk.new V [.int .i64 0, .int .i64 0, .bool false, .string ⟨#[]⟩] 57).fut (w' := w6); obtain ⟨y0, y1, y2, y3⟩ := At.z4 hy_.at0; have fy := hy_.free; have ly := hy_.lt; clear hy_)
              refine hK.out _ _ (by (try dsimp only); (first | exact ⟨hS1, hS2⟩ | exact ⟨Step.of, (bcell (fut _ _)).1⟩)) (fun hHeld => ?_)
              clear hK K
              (try simp only [Act.put, List.setIfInBounds_toArray, List.set_cons_zero, List.set_cons_succ])
              refine wpAnyH_ready (rs := [8]) (by kernel_rfl) (by simp) ?_
              refine AllReadyH.cons (o := ⟨none, _, _, _, _, _⟩) rfl (fun K hK => ?_) AllReadyH.nil
              go_simp
              refine hK.out _ _ (by (try dsimp only); (exact ⟨Step.of, (bcell (fut _ _)).1⟩)) (fun hHeld => ?_)
              clear hK K
              (try simp only [Act.put, List.setIfInBounds_toArray, List.set_cons_zero, List.set_cons_succ])
              refine wpAnyH_ready (rs := [9]) (by kernel_rfl) (by simp) ?_
              refine AllReadyH.cons (o := ⟨none, _, _, _, _, _⟩) rfl (fun K hK => ?_) AllReadyH.nil
              go_simp
              refine hK.out _ _ (by (try dsimp only); (exact ⟨Step.of, (bcell (fut _ _)).1⟩)) (fun hHeld => ?_)
              clear hK K
              (try simp only [Act.put, List.setIfInBounds_toArray, List.set_cons_zero, List.set_cons_succ])
              refine wpAnyH_done (by kernel_rfl) ?_ _
              go_wp2_with fail
              go_meet
              case rel =>
                have hd := Tl0.done (base := V) (mn := mn) (mx := mx) (g8 := V.heap.size + 1) (g9 := V.heap.size) (wx := w6) ⟨(Blk.new_at (w := (V.alloc (.cells #[.int .i64 0, .int .i64 0, .bool false, .string ⟨#[]⟩] 57))) (b := V.heap.size + 1) (by simp) [.int .i64 0, .int .i64 0, .bool false, .string ⟨#[]⟩] 57).fut, (Blk.new V [.int .i64 0, .int .i64 0, .bool false, .string ⟨#[]⟩] 57).fut, by omega, by omega, by omega, Step.of⟩
                refine ⟨V.heap.size + 1, V.heap.size, rfl, rfl, ?_⟩
                revert hd
                go_simp
        case rest =>
          clear t0 t1 t2 t3 t4 t5 t6 t7 t8 t9 lt_
          obtain ⟨g8, g9, rfl, rfl, htl⟩ := hcut
          have hsX := htl.st
          have hsX' : Step W wc := Step.of
          obtain ⟨X, rfl⟩ : ∃ x : World, x = wc := ⟨_, rfl⟩
          have zX := hsX.size
          have XB := hide htl.xb
          have YB := hide htl.yb
          clear htl
          have PS1 : Hid (∀ w', Calls Tryd.prog 88 #[.int .i64 n.cmp, .agg #[.int .i64 (kindV mn), .int .i64 (clean mn).i, .bool (clean mn).b, .string (clean mn).s], .agg #[.int .i64 (kindV mx), .int .i64 (clean mx).i, .bool (clean mx).b, .string (clean mx).s], .agg #[.int .i64 n.v.kind, .int .i64 n.v.i, .bool n.v.b, .string n.v.s]] w' fun e w'' => e = .returned (.bool (someB n.cmp (clean mn) (clean mx) n.v)) ∧ Step w' w'') := by
            show ∀ w', _
            intro w'
            have := psome_any n.cmp (clean mn) (clean mx) n.v w' hc'.1 hc'.2
            unfold Val.val at this
            rw [clean_kind, clean_kind] at this
            exact this
          have PS2 : Hid (∀ w', Calls Tryd.prog 88 #[.int .i64 (oppC n.cmp), .agg #[.int .i64 (kindV mn), .int .i64 (clean mn).i, .bool (clean mn).b, .string (clean mn).s], .agg #[.int .i64 (kindV mx), .int .i64 (clean mx).i, .bool (clean mx).b, .string (clean mx).s], .agg #[.int .i64 n.v.kind, .int .i64 n.v.i, .bool n.v.b, .string n.v.s]] w' fun e w'' => e = .returned (.bool (someB (oppC n.cmp) (clean mn) (clean mx) n.v)) ∧ Step w' w'') := by
            show ∀ w', _
            intro w'
            have := psome_any (oppC n.cmp) (clean mn) (clean mx) n.v w' (oppC_bd n.cmp).1 (oppC_bd n.cmp).2
            unfold Val.val at this
            rw [clean_kind, clean_kind] at this
            exact this
          have PO := hide (fun w' => popp_any n.cmp w' hc'.1 hc'.2)
          clear hc'
          obtain ⟨y1, hy1⟩ : ∃ y, someB n.cmp (clean mn) (clean mx) n.v = y := ⟨_, rfl⟩
          obtain ⟨y2, hy2⟩ : ∃ y, someB (oppC n.cmp) (clean mn) (clean mx) n.v = y := ⟨_, rfl⟩
          rw [hy1] at PS1 HR2
          rw [hy2] at PS2 HR2
          clear hy1 hy2
          obtain ⟨x0, x1, x2, x3⟩ := At.z4 XB.out.at0; have lx := XB.out.lt
          obtain ⟨y_0, y_1, y_2, y_3⟩ := At.z4 YB.out.at0; have ly := YB.out.lt
          obtain ⟨n0, n1, n2, n3, n4, n5, n6, n7, n8⟩ := At.l9 (HN.out.below (fut w0 X) hb)
          have hlt1 : b < X.heap.size := by omega
          go_upto_region 12 with (fail)
          refine wp_region_held_drew (S := (fun w' => Step X w' ∧ (∀ b o, b < X.heap.size → w'.cell? ⟨b, o, none⟩ = X.cell? ⟨b, o, none⟩))) (by kernel_rfl) (by (try dsimp only); (first | exact ⟨hS1, hS2⟩ | exact ⟨Step.of, (bcell (fut _ _)).1⟩)) (fun hHeld => ?_)
          refine wpAnyH_take (i := 0) (oi := ⟨some 48, _, _, _, _, _⟩) (v := ?_) rfl (by kernel_rfl) (by kernel_rfl) (by kernel_rfl) (fun _ _ _ h => h) (Or.inl ⟨by rfl, ?_⟩) (by assumption) ?_
          rotate_left
          · ((intro w hSw); (try dsimp only at hSw); go_simp; (try with_reducible rfl))
          (try simp only [Act.put, List.setIfInBounds_toArray, List.set_cons_zero, List.set_cons_succ])
          refine wpAnyH_take (i := 1) (oi := ⟨some 49, _, _, _, _, _⟩) (v := ?_) rfl (by kernel_rfl) (by kernel_rfl) (by kernel_rfl) (fun _ _ _ h => h) (Or.inl ⟨by rfl, ?_⟩) (by assumption) ?_
          rotate_left
          · ((intro w hSw); (try dsimp only at hSw); go_simp; (try with_reducible rfl))
          (try simp only [Act.put, List.setIfInBounds_toArray, List.set_cons_zero, List.set_cons_succ])
          refine wpAnyH_take (i := 2) (oi := ⟨some 50, _, _, _, _, _⟩) (v := ?_) rfl (by kernel_rfl) (by kernel_rfl) (by kernel_rfl) (fun _ _ _ h => h) (Or.inl ⟨by rfl, ?_⟩) (by assumption) ?_
          rotate_left
          · ((intro w hSw); (try dsimp only at hSw); go_simp; (try with_reducible rfl))
          (try simp only [Act.put, List.setIfInBounds_toArray, List.set_cons_zero, List.set_cons_succ])
          refine wpAnyH_take (i := 3) (oi := ⟨some 51, _, _, _, _, _⟩) (v := ?_) rfl (by kernel_rfl) (by kernel_rfl) (by kernel_rfl) (fun _ _ _ h => h) (Or.inl ⟨by rfl, ?_⟩) (by assumption) ?_
          rotate_left
          · ((intro w hSw); (try dsimp only at hSw); go_simp; (try with_reducible rfl))
          (try simp only [Act.put, List.setIfInBounds_toArray, List.set_cons_zero, List.set_cons_succ])
          refine wpAnyH_take (i := 4) (oi := ⟨some 52, _, _, _, _, _⟩) (v := ?_) rfl (by kernel_rfl) (by kernel_rfl) (by kernel_rfl) (fun _ _ _ h => h) (Or.inl ⟨by rfl, ?_⟩) (by assumption) ?_
          rotate_left
          · ((intro w hSw); (try dsimp only at hSw); go_simp; (try with_reducible rfl))
          (try simp only [Act.put, List.setIfInBounds_toArray, List.set_cons_zero, List.set_cons_succ])
          refine wpAnyH_take (i := 5) (oi := ⟨some 53, _, _, _, _, _⟩) (v := ?_) rfl (by kernel_rfl) (by kernel_rfl) (by kernel_rfl) (fun _ _ _ h => h) (Or.inl ⟨by rfl, ?_⟩) (by assumption) ?_
          rotate_left
          · ((intro w hSw); (try dsimp only at hSw); go_simp; (try with_reducible rfl))
          (try simp only [Act.put, List.setIfInBounds_toArray, List.set_cons_zero, List.set_cons_succ])
          refine wpAnyH_take (i := 6) (oi := ⟨some 54, _, _, _, _, _⟩) (v := ?_) rfl (by kernel_rfl) (by kernel_rfl) (by kernel_rfl) (fun _ _ _ h => h) (Or.inl ⟨by rfl, ?_⟩) (by assumption) ?_
          rotate_left
          · ((intro w hSw); (try dsimp only at hSw); go_simp; (try with_reducible rfl))
          (try simp only [Act.put, List.setIfInBounds_toArray, List.set_cons_zero, List.set_cons_succ])
          refine wpAnyH_take (i := 7) (oi := ⟨some 55, _, _, _, _, _⟩) (v := ?_) rfl (by kernel_rfl) (by kernel_rfl) (by kernel_rfl) (fun _ _ _ h => h) (Or.inl ⟨by rfl, ?_⟩) (by assumption) ?_
          rotate_left
          · ((intro w hSw); (try dsimp only at hSw); go_simp; (try with_reducible rfl))
          (try simp only [Act.put, List.setIfInBounds_toArray, List.set_cons_zero, List.set_cons_succ])
          refine wpAnyH_take (i := 8) (oi := ⟨some 56, _, _, _, _, _⟩) (v := ?_) rfl (by kernel_rfl) (by kernel_rfl) (by kernel_rfl) (fun _ _ _ h => h) (Or.inl ⟨by rfl, ?_⟩) (by assumption) ?_
          rotate_left
          · ((intro w hSw); (try dsimp only at hSw); go_simp; (try with_reducible rfl))
          (try simp only [Act.put, List.setIfInBounds_toArray, List.set_cons_zero, List.set_cons_succ])
          refine wpAnyH_take (i := 9) (oi := ⟨some 57, _, _, _, _, _⟩) (v := ?_) rfl (by kernel_rfl) (by kernel_rfl) (by kernel_rfl) (fun _ _ _ h => h) (Or.inl ⟨by rfl, ?_⟩) (by assumption) ?_
          rotate_left
          · ((intro w hSw); (try dsimp only at hSw); go_simp; (try with_reducible rfl))
          (try simp only [Act.put, List.setIfInBounds_toArray, List.set_cons_zero, List.set_cons_succ])
          refine wpAnyH_ready (rs := [10]) (by kernel_rfl) (by simp) ?_
          refine AllReadyH.cons (o := ⟨some 58, _, _, _, _, _⟩) rfl (fun K hK => ?_) AllReadyH.nil
          obtain ⟨hS1, hS2⟩ := hHeld
          go_simp
          (go_at_call 88; (with_reducible refine (PS1.out _).mono ?_); rintro e w5 ⟨rfl, hs5⟩)
          refine hK.out _ _ (by (try dsimp only); (first | exact ⟨hS1, hS2⟩ | exact ⟨Step.of, (bcell (fut _ _)).1⟩)) (fun hHeld => ?_)
          clear hK K
          (try simp only [Act.put, List.setIfInBounds_toArray, List.set_cons_zero, List.set_cons_succ])
          refine wpAnyH_done (by kernel_rfl) ?_ _
          obtain ⟨hS1, hS2⟩ := hHeld
          have zY := hS1.size
          clear x0 x1 x2 x3 lx y_0 y_1 y_2 y_3 ly n0 n1 n2 n3 n4 n5 n6 n7 n8 hlt1 hS2
          rcases hp with rfl | rfl
          · cases y1
            · go_upto_region 14 with (first | (go_at_call 58; first | (with_reducible refine (pof_k1 _ _ (by first | rfl | simp)).mono ?_; rintro e w' ⟨rfl, rfl⟩) | (with_reducible refine (pof_k0 _ _ (by first | rfl | simp)).mono ?_; rintro e w' ⟨rfl, rfl⟩) | (with_reducible refine (pof_k2 _ _ (by first | rfl | simp)).mono ?_; rintro e w' ⟨rfl, rfl⟩)))
              obtain ⟨Y, hY⟩ : ∃ Y, Y = w5 := ⟨_, rfl⟩
              rw [← hY]
              have hsY : Step w5 Y := by rw [hY]; exact Step.of
              clear hY
              have zY2 := hsY.size
              obtain ⟨x0, x1, x2, x3⟩ := At.z4 (XB.out.fut (w' := Y)).at0; have lx := (XB.out.fut (w' := Y)).lt
              obtain ⟨y_0, y_1, y_2, y_3⟩ := At.z4 (YB.out.fut (w' := Y)).at0; have ly := (YB.out.fut (w' := Y)).lt
              obtain ⟨n0, n1, n2, n3, n4, n5, n6, n7, n8⟩ := At.l9 (HN.out.below (fut w0 Y) hb)
              have hlt1 : b < Y.heap.size := by omega
              refine wp_region_held_drew (S := (fun w' => Step Y w' ∧ (∀ b o, b < Y.heap.size → w'.cell? ⟨b, o, none⟩ = Y.cell? ⟨b, o, none⟩))) (by kernel_rfl) (by (try dsimp only); (first | exact ⟨hS1, hS2⟩ | exact ⟨Step.of, (bcell (fut _ _)).1⟩)) (fun hHeld => ?_)
              refine wpAnyH_take (i := 0) (oi := ⟨some 63, _, _, _, _, _⟩) (v := ?_) rfl (by kernel_rfl) (by kernel_rfl) (by kernel_rfl) (fun _ _ _ h => h) (Or.inl ⟨by rfl, ?_⟩) (by assumption) ?_
              rotate_left
              · ((intro w hSw); (try dsimp only at hSw); go_simp; (try with_reducible rfl))
              (try simp only [Act.put, List.setIfInBounds_toArray, List.set_cons_zero, List.set_cons_succ])
              refine wpAnyH_take (i := 1) (oi := ⟨some 64, _, _, _, _, _⟩) (v := ?_) rfl (by kernel_rfl) (by kernel_rfl) (by kernel_rfl) (fun _ _ _ h => h) (Or.inl ⟨by rfl, ?_⟩) (by assumption) ?_
              rotate_left
              · ((intro w hSw); (try dsimp only at hSw); go_simp; (try with_reducible rfl))
              (try simp only [Act.put, List.setIfInBounds_toArray, List.set_cons_zero, List.set_cons_succ])
              refine wpAnyH_take (i := 2) (oi := ⟨some 65, _, _, _, _, _⟩) (v := ?_) rfl (by kernel_rfl) (by kernel_rfl) (by kernel_rfl) (fun _ _ _ h => h) (Or.inl ⟨by rfl, ?_⟩) (by assumption) ?_
              rotate_left
              · ((intro w hSw); (try dsimp only at hSw); go_simp; (try with_reducible rfl))
              (try simp only [Act.put, List.setIfInBounds_toArray, List.set_cons_zero, List.set_cons_succ])
              refine wpAnyH_take (i := 3) (oi := ⟨some 66, _, _, _, _, _⟩) (v := ?_) rfl (by kernel_rfl) (by kernel_rfl) (by kernel_rfl) (fun _ _ _ h => h) (Or.inl ⟨by rfl, ?_⟩) (by assumption) ?_
              rotate_left
              · ((intro w hSw); (try dsimp only at hSw); go_simp; (try with_reducible rfl))
              (try simp only [Act.put, List.setIfInBounds_toArray, List.set_cons_zero, List.set_cons_succ])
              refine wpAnyH_take (i := 5) (oi := ⟨some 68, _, _, _, _, _⟩) (v := ?_) rfl (by kernel_rfl) (by kernel_rfl) (by kernel_rfl) (fun _ _ _ h => h) (Or.inl ⟨by rfl, ?_⟩) (by assumption) ?_
              rotate_left
              · ((intro w hSw); (try dsimp only at hSw); go_simp; (try with_reducible rfl))
              (try simp only [Act.put, List.setIfInBounds_toArray, List.set_cons_zero, List.set_cons_succ])
              refine wpAnyH_take (i := 6) (oi := ⟨some 69, _, _, _, _, _⟩) (v := ?_) rfl (by kernel_rfl) (by kernel_rfl) (by kernel_rfl) (fun _ _ _ h => h) (Or.inl ⟨by rfl, ?_⟩) (by assumption) ?_
              rotate_left
              · ((intro w hSw); (try dsimp only at hSw); go_simp; (try with_reducible rfl))
              (try simp only [Act.put, List.setIfInBounds_toArray, List.set_cons_zero, List.set_cons_succ])
              refine wpAnyH_take (i := 7) (oi := ⟨some 70, _, _, _, _, _⟩) (v := ?_) rfl (by kernel_rfl) (by kernel_rfl) (by kernel_rfl) (fun _ _ _ h => h) (Or.inl ⟨by rfl, ?_⟩) (by assumption) ?_
              rotate_left
              · ((intro w hSw); (try dsimp only at hSw); go_simp; (try with_reducible rfl))
              (try simp only [Act.put, List.setIfInBounds_toArray, List.set_cons_zero, List.set_cons_succ])
              refine wpAnyH_take (i := 8) (oi := ⟨some 71, _, _, _, _, _⟩) (v := ?_) rfl (by kernel_rfl) (by kernel_rfl) (by kernel_rfl) (fun _ _ _ h => h) (Or.inl ⟨by rfl, ?_⟩) (by assumption) ?_
              rotate_left
              · ((intro w hSw); (try dsimp only at hSw); go_simp; (try with_reducible rfl))
              (try simp only [Act.put, List.setIfInBounds_toArray, List.set_cons_zero, List.set_cons_succ])
              refine wpAnyH_take (i := 9) (oi := ⟨some 72, _, _, _, _, _⟩) (v := ?_) rfl (by kernel_rfl) (by kernel_rfl) (by kernel_rfl) (fun _ _ _ h => h) (Or.inl ⟨by rfl, ?_⟩) (by assumption) ?_
              rotate_left
              · ((intro w hSw); (try dsimp only at hSw); go_simp; (try with_reducible rfl))
              (try simp only [Act.put, List.setIfInBounds_toArray, List.set_cons_zero, List.set_cons_succ])
              refine wpAnyH_take (i := 10) (oi := ⟨some 73, _, _, _, _, _⟩) (v := ?_) rfl (by kernel_rfl) (by kernel_rfl) (by kernel_rfl) (fun _ _ _ h => h) (Or.inl ⟨by rfl, ?_⟩) (by assumption) ?_
              rotate_left
              · ((intro w hSw); (try dsimp only at hSw); go_simp; (try with_reducible rfl))
              (try simp only [Act.put, List.setIfInBounds_toArray, List.set_cons_zero, List.set_cons_succ])
              refine wpAnyH_ready (rs := [4]) (by kernel_rfl) (by simp) ?_
              refine AllReadyH.cons (o := ⟨some 67, _, _, _, _, _⟩) rfl (fun K hK => ?_) AllReadyH.nil
              obtain ⟨hS1, hS2⟩ := hHeld
              go_simp
              (go_at_call 89; (with_reducible refine (PO.out _).mono ?_); rintro e w' ⟨rfl, rfl⟩)
              refine hK.out _ _ (by (try dsimp only); (first | exact ⟨hS1, hS2⟩ | exact ⟨Step.of, (bcell (fut _ _)).1⟩)) (fun hHeld => ?_)
              clear hK K
              (try simp only [Act.put, List.setIfInBounds_toArray, List.set_cons_zero, List.set_cons_succ])
              refine wpAnyH_ready (rs := [11]) (by kernel_rfl) (by simp) ?_
              refine AllReadyH.cons (o := ⟨some 74, _, _, _, _, _⟩) rfl (fun K hK => ?_) AllReadyH.nil
              obtain ⟨hS1, hS2⟩ := hHeld
              go_simp
              (go_at_call 88; (with_reducible refine (PS2.out _).mono ?_); rintro e w6 ⟨rfl, hs6⟩)
              refine hK.out _ _ (by (try dsimp only); (first | exact ⟨hS1, hS2⟩ | exact ⟨Step.of, (bcell (fut _ _)).1⟩)) (fun hHeld => ?_)
              clear hK K
              (try simp only [Act.put, List.setIfInBounds_toArray, List.set_cons_zero, List.set_cons_succ])
              refine wpAnyH_done (by kernel_rfl) ?_ _
              obtain ⟨hS1, hS2⟩ := hHeld
              clear x0 x1 x2 x3 lx y_0 y_1 y_2 y_3 ly n0 n1 n2 n3 n4 n5 n6 n7 n8 hlt1 hS2
              cases y2
              all_goals
                go_wp2_with (first | (go_at_call 58; first | (with_reducible refine (pof_k1 _ _ (by first | rfl | simp)).mono ?_; rintro e w' ⟨rfl, rfl⟩) | (with_reducible refine (pof_k0 _ _ (by first | rfl | simp)).mono ?_; rintro e w' ⟨rfl, rfl⟩) | (with_reducible refine (pof_k2 _ _ (by first | rfl | simp)).mono ?_; rintro e w' ⟨rfl, rfl⟩)))
                go_ret
                exact ⟨by rw [← HTR.out, HR2.out]; rfl, Step.of⟩
            · go_upto_region 14 with (first | (go_at_call 58; first | (with_reducible refine (pof_k1 _ _ (by first | rfl | simp)).mono ?_; rintro e w' ⟨rfl, rfl⟩) | (with_reducible refine (pof_k0 _ _ (by first | rfl | simp)).mono ?_; rintro e w' ⟨rfl, rfl⟩) | (with_reducible refine (pof_k2 _ _ (by first | rfl | simp)).mono ?_; rintro e w' ⟨rfl, rfl⟩)))
              obtain ⟨Y, hY⟩ : ∃ Y, Y = (w5.alloc (.cells #[.int .i64 1] 3)) := ⟨_, rfl⟩
              rw [← hY]
              have hsY : Step w5 Y := by rw [hY]; exact Step.of
              clear hY
              have zY2 := hsY.size
              obtain ⟨x0, x1, x2, x3⟩ := At.z4 (XB.out.fut (w' := Y)).at0; have lx := (XB.out.fut (w' := Y)).lt
              obtain ⟨y_0, y_1, y_2, y_3⟩ := At.z4 (YB.out.fut (w' := Y)).at0; have ly := (YB.out.fut (w' := Y)).lt
              obtain ⟨n0, n1, n2, n3, n4, n5, n6, n7, n8⟩ := At.l9 (HN.out.below (fut w0 Y) hb)
              have hlt1 : b < Y.heap.size := by omega
              refine wp_region_held_drew (S := (fun w' => Step Y w' ∧ (∀ b o, b < Y.heap.size → w'.cell? ⟨b, o, none⟩ = Y.cell? ⟨b, o, none⟩))) (by kernel_rfl) (by (try dsimp only); (first | exact ⟨hS1, hS2⟩ | exact ⟨Step.of, (bcell (fut _ _)).1⟩)) (fun hHeld => ?_)
              refine wpAnyH_take (i := 0) (oi := ⟨some 63, _, _, _, _, _⟩) (v := ?_) rfl (by kernel_rfl) (by kernel_rfl) (by kernel_rfl) (fun _ _ _ h => h) (Or.inl ⟨by rfl, ?_⟩) (by assumption) ?_
              rotate_left
              · ((intro w hSw); (try dsimp only at hSw); go_simp; (try with_reducible rfl))
              (try simp only [Act.put, List.setIfInBounds_toArray, List.set_cons_zero, List.set_cons_succ])
              refine wpAnyH_take (i := 1) (oi := ⟨some 64, _, _, _, _, _⟩) (v := ?_) rfl (by kernel_rfl) (by kernel_rfl) (by kernel_rfl) (fun _ _ _ h => h) (Or.inl ⟨by rfl, ?_⟩) (by assumption) ?_
              rotate_left
              · ((intro w hSw); (try dsimp only at hSw); go_simp; (try with_reducible rfl))
              (try simp only [Act.put, List.setIfInBounds_toArray, List.set_cons_zero, List.set_cons_succ])
              refine wpAnyH_take (i := 2) (oi := ⟨some 65, _, _, _, _, _⟩) (v := ?_) rfl (by kernel_rfl) (by kernel_rfl) (by kernel_rfl) (fun _ _ _ h => h) (Or.inl ⟨by rfl, ?_⟩) (by assumption) ?_
              rotate_left
              · ((intro w hSw); (try dsimp only at hSw); go_simp; (try with_reducible rfl))
              (try simp only [Act.put, List.setIfInBounds_toArray, List.set_cons_zero, List.set_cons_succ])
              refine wpAnyH_take (i := 3) (oi := ⟨some 66, _, _, _, _, _⟩) (v := ?_) rfl (by kernel_rfl) (by kernel_rfl) (by kernel_rfl) (fun _ _ _ h => h) (Or.inl ⟨by rfl, ?_⟩) (by assumption) ?_
              rotate_left
              · ((intro w hSw); (try dsimp only at hSw); go_simp; (try with_reducible rfl))
              (try simp only [Act.put, List.setIfInBounds_toArray, List.set_cons_zero, List.set_cons_succ])
              refine wpAnyH_take (i := 5) (oi := ⟨some 68, _, _, _, _, _⟩) (v := ?_) rfl (by kernel_rfl) (by kernel_rfl) (by kernel_rfl) (fun _ _ _ h => h) (Or.inl ⟨by rfl, ?_⟩) (by assumption) ?_
              rotate_left
              · ((intro w hSw); (try dsimp only at hSw); go_simp; (try with_reducible rfl))
              (try simp only [Act.put, List.setIfInBounds_toArray, List.set_cons_zero, List.set_cons_succ])
              refine wpAnyH_take (i := 6) (oi := ⟨some 69, _, _, _, _, _⟩) (v := ?_) rfl (by kernel_rfl) (by kernel_rfl) (by kernel_rfl) (fun _ _ _ h => h) (Or.inl ⟨by rfl, ?_⟩) (by assumption) ?_
              rotate_left
              · ((intro w hSw); (try dsimp only at hSw); go_simp; (try with_reducible rfl))
              (try simp only [Act.put, List.setIfInBounds_toArray, List.set_cons_zero, List.set_cons_succ])
              refine wpAnyH_take (i := 7) (oi := ⟨some 70, _, _, _, _, _⟩) (v := ?_) rfl (by kernel_rfl) (by kernel_rfl) (by kernel_rfl) (fun _ _ _ h => h) (Or.inl ⟨by rfl, ?_⟩) (by assumption) ?_
              rotate_left
              · ((intro w hSw); (try dsimp only at hSw); go_simp; (try with_reducible rfl))
              (try simp only [Act.put, List.setIfInBounds_toArray, List.set_cons_zero, List.set_cons_succ])
              refine wpAnyH_take (i := 8) (oi := ⟨some 71, _, _, _, _, _⟩) (v := ?_) rfl (by kernel_rfl) (by kernel_rfl) (by kernel_rfl) (fun _ _ _ h => h) (Or.inl ⟨by rfl, ?_⟩) (by assumption) ?_
              rotate_left
              · ((intro w hSw); (try dsimp only at hSw); go_simp; (try with_reducible rfl))
              (try simp only [Act.put, List.setIfInBounds_toArray, List.set_cons_zero, List.set_cons_succ])
              refine wpAnyH_take (i := 9) (oi := ⟨some 72, _, _, _, _, _⟩) (v := ?_) rfl (by kernel_rfl) (by kernel_rfl) (by kernel_rfl) (fun _ _ _ h => h) (Or.inl ⟨by rfl, ?_⟩) (by assumption) ?_
              rotate_left
              · ((intro w hSw); (try dsimp only at hSw); go_simp; (try with_reducible rfl))
              (try simp only [Act.put, List.setIfInBounds_toArray, List.set_cons_zero, List.set_cons_succ])
              refine wpAnyH_take (i := 10) (oi := ⟨some 73, _, _, _, _, _⟩) (v := ?_) rfl (by kernel_rfl) (by kernel_rfl) (by kernel_rfl) (fun _ _ _ h => h) (Or.inl ⟨by rfl, ?_⟩) (by assumption) ?_
              rotate_left
              · ((intro w hSw); (try dsimp only at hSw); go_simp; (try with_reducible rfl))
              (try simp only [Act.put, List.setIfInBounds_toArray, List.set_cons_zero, List.set_cons_succ])
              refine wpAnyH_ready (rs := [4]) (by kernel_rfl) (by simp) ?_
              refine AllReadyH.cons (o := ⟨some 67, _, _, _, _, _⟩) rfl (fun K hK => ?_) AllReadyH.nil
              obtain ⟨hS1, hS2⟩ := hHeld
              go_simp
              (go_at_call 89; (with_reducible refine (PO.out _).mono ?_); rintro e w' ⟨rfl, rfl⟩)
              refine hK.out _ _ (by (try dsimp only); (first | exact ⟨hS1, hS2⟩ | exact ⟨Step.of, (bcell (fut _ _)).1⟩)) (fun hHeld => ?_)
              clear hK K
              (try simp only [Act.put, List.setIfInBounds_toArray, List.set_cons_zero, List.set_cons_succ])
              refine wpAnyH_ready (rs := [11]) (by kernel_rfl) (by simp) ?_
              refine AllReadyH.cons (o := ⟨some 74, _, _, _, _, _⟩) rfl (fun K hK => ?_) AllReadyH.nil
              obtain ⟨hS1, hS2⟩ := hHeld
              go_simp
              (go_at_call 88; (with_reducible refine (PS2.out _).mono ?_); rintro e w6 ⟨rfl, hs6⟩)
              refine hK.out _ _ (by (try dsimp only); (first | exact ⟨hS1, hS2⟩ | exact ⟨Step.of, (bcell (fut _ _)).1⟩)) (fun hHeld => ?_)
              clear hK K
              (try simp only [Act.put, List.setIfInBounds_toArray, List.set_cons_zero, List.set_cons_succ])
              refine wpAnyH_done (by kernel_rfl) ?_ _
              obtain ⟨hS1, hS2⟩ := hHeld
              clear x0 x1 x2 x3 lx y_0 y_1 y_2 y_3 ly n0 n1 n2 n3 n4 n5 n6 n7 n8 hlt1 hS2
              cases y2
              all_goals
                go_wp2_with (first | (go_at_call 58; first | (with_reducible refine (pof_k1 _ _ (by first | rfl | simp)).mono ?_; rintro e w' ⟨rfl, rfl⟩) | (with_reducible refine (pof_k0 _ _ (by first | rfl | simp)).mono ?_; rintro e w' ⟨rfl, rfl⟩) | (with_reducible refine (pof_k2 _ _ (by first | rfl | simp)).mono ?_; rintro e w' ⟨rfl, rfl⟩)))
                go_ret
                exact ⟨by rw [← HTR.out, HR2.out]; rfl, Step.of⟩
          · cases y1
            · go_upto_region 14 with (first | (go_at_call 58; first | (with_reducible refine (pof_k1 _ _ (by first | rfl | simp)).mono ?_; rintro e w' ⟨rfl, rfl⟩) | (with_reducible refine (pof_k0 _ _ (by first | rfl | simp)).mono ?_; rintro e w' ⟨rfl, rfl⟩) | (with_reducible refine (pof_k2 _ _ (by first | rfl | simp)).mono ?_; rintro e w' ⟨rfl, rfl⟩)))
              obtain ⟨Y, hY⟩ : ∃ Y, Y = w5 := ⟨_, rfl⟩
              rw [← hY]
              have hsY : Step w5 Y := by rw [hY]; exact Step.of
              clear hY
              have zY2 := hsY.size
              obtain ⟨x0, x1, x2, x3⟩ := At.z4 (XB.out.fut (w' := Y)).at0; have lx := (XB.out.fut (w' := Y)).lt
              obtain ⟨y_0, y_1, y_2, y_3⟩ := At.z4 (YB.out.fut (w' := Y)).at0; have ly := (YB.out.fut (w' := Y)).lt
              obtain ⟨n0, n1, n2, n3, n4, n5, n6, n7, n8⟩ := At.l9 (HN.out.below (fut w0 Y) hb)
              have hlt1 : b < Y.heap.size := by omega
              refine wp_region_held_drew (S := (fun w' => Step Y w' ∧ (∀ b o, b < Y.heap.size → w'.cell? ⟨b, o, none⟩ = Y.cell? ⟨b, o, none⟩))) (by kernel_rfl) (by (try dsimp only); (first | exact ⟨hS1, hS2⟩ | exact ⟨Step.of, (bcell (fut _ _)).1⟩)) (fun hHeld => ?_)
              refine wpAnyH_take (i := 0) (oi := ⟨some 63, _, _, _, _, _⟩) (v := ?_) rfl (by kernel_rfl) (by kernel_rfl) (by kernel_rfl) (fun _ _ _ h => h) (Or.inl ⟨by rfl, ?_⟩) (by assumption) ?_
              rotate_left
              · ((intro w hSw); (try dsimp only at hSw); go_simp; (try with_reducible rfl))
              (try simp only [Act.put, List.setIfInBounds_toArray, List.set_cons_zero, List.set_cons_succ])
              refine wpAnyH_take (i := 1) (oi := ⟨some 64, _, _, _, _, _⟩) (v := ?_) rfl (by kernel_rfl) (by kernel_rfl) (by kernel_rfl) (fun _ _ _ h => h) (Or.inl ⟨by rfl, ?_⟩) (by assumption) ?_
              rotate_left
              · ((intro w hSw); (try dsimp only at hSw); go_simp; (try with_reducible rfl))
              (try simp only [Act.put, List.setIfInBounds_toArray, List.set_cons_zero, List.set_cons_succ])
              refine wpAnyH_take (i := 2) (oi := ⟨some 65, _, _, _, _, _⟩) (v := ?_) rfl (by kernel_rfl) (by kernel_rfl) (by kernel_rfl) (fun _ _ _ h => h) (Or.inl ⟨by rfl, ?_⟩) (by assumption) ?_
              rotate_left
              · ((intro w hSw); (try dsimp only at hSw); go_simp; (try with_reducible rfl))
              (try simp only [Act.put, List.setIfInBounds_toArray, List.set_cons_zero, List.set_cons_succ])
              refine wpAnyH_take (i := 3) (oi := ⟨some 66, _, _, _, _, _⟩) (v := ?_) rfl (by kernel_rfl) (by kernel_rfl) (by kernel_rfl) (fun _ _ _ h => h) (Or.inl ⟨by rfl, ?_⟩) (by assumption) ?_
              rotate_left
              · ((intro w hSw); (try dsimp only at hSw); go_simp; (try with_reducible rfl))
              (try simp only [Act.put, List.setIfInBounds_toArray, List.set_cons_zero, List.set_cons_succ])
              refine wpAnyH_take (i := 5) (oi := ⟨some 68, _, _, _, _, _⟩) (v := ?_) rfl (by kernel_rfl) (by kernel_rfl) (by kernel_rfl) (fun _ _ _ h => h) (Or.inl ⟨by rfl, ?_⟩) (by assumption) ?_
              rotate_left
              · ((intro w hSw); (try dsimp only at hSw); go_simp; (try with_reducible rfl))
              (try simp only [Act.put, List.setIfInBounds_toArray, List.set_cons_zero, List.set_cons_succ])
              refine wpAnyH_take (i := 6) (oi := ⟨some 69, _, _, _, _, _⟩) (v := ?_) rfl (by kernel_rfl) (by kernel_rfl) (by kernel_rfl) (fun _ _ _ h => h) (Or.inl ⟨by rfl, ?_⟩) (by assumption) ?_
              rotate_left
              · ((intro w hSw); (try dsimp only at hSw); go_simp; (try with_reducible rfl))
              (try simp only [Act.put, List.setIfInBounds_toArray, List.set_cons_zero, List.set_cons_succ])
              refine wpAnyH_take (i := 7) (oi := ⟨some 70, _, _, _, _, _⟩) (v := ?_) rfl (by kernel_rfl) (by kernel_rfl) (by kernel_rfl) (fun _ _ _ h => h) (Or.inl ⟨by rfl, ?_⟩) (by assumption) ?_
              rotate_left
              · ((intro w hSw); (try dsimp only at hSw); go_simp; (try with_reducible rfl))
              (try simp only [Act.put, List.setIfInBounds_toArray, List.set_cons_zero, List.set_cons_succ])
              refine wpAnyH_take (i := 8) (oi := ⟨some 71, _, _, _, _, _⟩) (v := ?_) rfl (by kernel_rfl) (by kernel_rfl) (by kernel_rfl) (fun _ _ _ h => h) (Or.inl ⟨by rfl, ?_⟩) (by assumption) ?_
              rotate_left
              · ((intro w hSw); (try dsimp only at hSw); go_simp; (try with_reducible rfl))
              (try simp only [Act.put, List.setIfInBounds_toArray, List.set_cons_zero, List.set_cons_succ])
              refine wpAnyH_take (i := 9) (oi := ⟨some 72, _, _, _, _, _⟩) (v := ?_) rfl (by kernel_rfl) (by kernel_rfl) (by kernel_rfl) (fun _ _ _ h => h) (Or.inl ⟨by rfl, ?_⟩) (by assumption) ?_
              rotate_left
              · ((intro w hSw); (try dsimp only at hSw); go_simp; (try with_reducible rfl))
              (try simp only [Act.put, List.setIfInBounds_toArray, List.set_cons_zero, List.set_cons_succ])
              refine wpAnyH_take (i := 10) (oi := ⟨some 73, _, _, _, _, _⟩) (v := ?_) rfl (by kernel_rfl) (by kernel_rfl) (by kernel_rfl) (fun _ _ _ h => h) (Or.inl ⟨by rfl, ?_⟩) (by assumption) ?_
              rotate_left
              · ((intro w hSw); (try dsimp only at hSw); go_simp; (try with_reducible rfl))
              (try simp only [Act.put, List.setIfInBounds_toArray, List.set_cons_zero, List.set_cons_succ])
              refine wpAnyH_ready (rs := [4]) (by kernel_rfl) (by simp) ?_
              refine AllReadyH.cons (o := ⟨some 67, _, _, _, _, _⟩) rfl (fun K hK => ?_) AllReadyH.nil
              obtain ⟨hS1, hS2⟩ := hHeld
              go_simp
              (go_at_call 89; (with_reducible refine (PO.out _).mono ?_); rintro e w' ⟨rfl, rfl⟩)
              refine hK.out _ _ (by (try dsimp only); (first | exact ⟨hS1, hS2⟩ | exact ⟨Step.of, (bcell (fut _ _)).1⟩)) (fun hHeld => ?_)
              clear hK K
              (try simp only [Act.put, List.setIfInBounds_toArray, List.set_cons_zero, List.set_cons_succ])
              refine wpAnyH_ready (rs := [11]) (by kernel_rfl) (by simp) ?_
              refine AllReadyH.cons (o := ⟨some 74, _, _, _, _, _⟩) rfl (fun K hK => ?_) AllReadyH.nil
              obtain ⟨hS1, hS2⟩ := hHeld
              go_simp
              (go_at_call 88; (with_reducible refine (PS2.out _).mono ?_); rintro e w6 ⟨rfl, hs6⟩)
              refine hK.out _ _ (by (try dsimp only); (first | exact ⟨hS1, hS2⟩ | exact ⟨Step.of, (bcell (fut _ _)).1⟩)) (fun hHeld => ?_)
              clear hK K
              (try simp only [Act.put, List.setIfInBounds_toArray, List.set_cons_zero, List.set_cons_succ])
              refine wpAnyH_done (by kernel_rfl) ?_ _
              obtain ⟨hS1, hS2⟩ := hHeld
              clear x0 x1 x2 x3 lx y_0 y_1 y_2 y_3 ly n0 n1 n2 n3 n4 n5 n6 n7 n8 hlt1 hS2
              cases y2
              all_goals
                go_wp2_with (first | (go_at_call 58; first | (with_reducible refine (pof_k1 _ _ (by first | rfl | simp)).mono ?_; rintro e w' ⟨rfl, rfl⟩) | (with_reducible refine (pof_k0 _ _ (by first | rfl | simp)).mono ?_; rintro e w' ⟨rfl, rfl⟩) | (with_reducible refine (pof_k2 _ _ (by first | rfl | simp)).mono ?_; rintro e w' ⟨rfl, rfl⟩)))
                go_ret
                exact ⟨by rw [← HTR.out, HR2.out]; rfl, Step.of⟩
            · go_upto_region 14 with (first | (go_at_call 58; first | (with_reducible refine (pof_k1 _ _ (by first | rfl | simp)).mono ?_; rintro e w' ⟨rfl, rfl⟩) | (with_reducible refine (pof_k0 _ _ (by first | rfl | simp)).mono ?_; rintro e w' ⟨rfl, rfl⟩) | (with_reducible refine (pof_k2 _ _ (by first | rfl | simp)).mono ?_; rintro e w' ⟨rfl, rfl⟩)))
              obtain ⟨Y, hY⟩ : ∃ Y, Y = (w5.alloc (.cells #[.int .i64 1] 3)) := ⟨_, rfl⟩
              rw [← hY]
              have hsY : Step w5 Y := by rw [hY]; exact Step.of
              clear hY
              have zY2 := hsY.size
              obtain ⟨x0, x1, x2, x3⟩ := At.z4 (XB.out.fut (w' := Y)).at0; have lx := (XB.out.fut (w' := Y)).lt
              obtain ⟨y_0, y_1, y_2, y_3⟩ := At.z4 (YB.out.fut (w' := Y)).at0; have ly := (YB.out.fut (w' := Y)).lt
              obtain ⟨n0, n1, n2, n3, n4, n5, n6, n7, n8⟩ := At.l9 (HN.out.below (fut w0 Y) hb)
              have hlt1 : b < Y.heap.size := by omega
              refine wp_region_held_drew (S := (fun w' => Step Y w' ∧ (∀ b o, b < Y.heap.size → w'.cell? ⟨b, o, none⟩ = Y.cell? ⟨b, o, none⟩))) (by kernel_rfl) (by (try dsimp only); (first | exact ⟨hS1, hS2⟩ | exact ⟨Step.of, (bcell (fut _ _)).1⟩)) (fun hHeld => ?_)
              refine wpAnyH_take (i := 0) (oi := ⟨some 63, _, _, _, _, _⟩) (v := ?_) rfl (by kernel_rfl) (by kernel_rfl) (by kernel_rfl) (fun _ _ _ h => h) (Or.inl ⟨by rfl, ?_⟩) (by assumption) ?_
              rotate_left
              · ((intro w hSw); (try dsimp only at hSw); go_simp; (try with_reducible rfl))
              (try simp only [Act.put, List.setIfInBounds_toArray, List.set_cons_zero, List.set_cons_succ])
              refine wpAnyH_take (i := 1) (oi := ⟨some 64, _, _, _, _, _⟩) (v := ?_) rfl (by kernel_rfl) (by kernel_rfl) (by kernel_rfl) (fun _ _ _ h => h) (Or.inl ⟨by rfl, ?_⟩) (by assumption) ?_
              rotate_left
              · ((intro w hSw); (try dsimp only at hSw); go_simp; (try with_reducible rfl))
              (try simp only [Act.put, List.setIfInBounds_toArray, List.set_cons_zero, List.set_cons_succ])
              refine wpAnyH_take (i := 2) (oi := ⟨some 65, _, _, _, _, _⟩) (v := ?_) rfl (by kernel_rfl) (by kernel_rfl) (by kernel_rfl) (fun _ _ _ h => h) (Or.inl ⟨by rfl, ?_⟩) (by assumption) ?_
              rotate_left
              · ((intro w hSw); (try dsimp only at hSw); go_simp; (try with_reducible rfl))
              (try simp only [Act.put, List.setIfInBounds_toArray, List.set_cons_zero, List.set_cons_succ])
              refine wpAnyH_take (i := 3) (oi := ⟨some 66, _, _, _, _, _⟩) (v := ?_) rfl (by kernel_rfl) (by kernel_rfl) (by kernel_rfl) (fun _ _ _ h => h) (Or.inl ⟨by rfl, ?_⟩) (by assumption) ?_
              rotate_left
              · ((intro w hSw); (try dsimp only at hSw); go_simp; (try with_reducible rfl))
              (try simp only [Act.put, List.setIfInBounds_toArray, List.set_cons_zero, List.set_cons_succ])
              refine wpAnyH_take (i := 5) (oi := ⟨some 68, _, _, _, _, _⟩) (v := ?_) rfl (by kernel_rfl) (by kernel_rfl) (by kernel_rfl) (fun _ _ _ h => h) (Or.inl ⟨by rfl, ?_⟩) (by assumption) ?_
              rotate_left
              · ((intro w hSw); (try dsimp only at hSw); go_simp; (try with_reducible rfl))
              (try simp only [Act.put, List.setIfInBounds_toArray, List.set_cons_zero, List.set_cons_succ])
              refine wpAnyH_take (i := 6) (oi := ⟨some 69, _, _, _, _, _⟩) (v := ?_) rfl (by kernel_rfl) (by kernel_rfl) (by kernel_rfl) (fun _ _ _ h => h) (Or.inl ⟨by rfl, ?_⟩) (by assumption) ?_
              rotate_left
              · ((intro w hSw); (try dsimp only at hSw); go_simp; (try with_reducible rfl))
              (try simp only [Act.put, List.setIfInBounds_toArray, List.set_cons_zero, List.set_cons_succ])
              refine wpAnyH_take (i := 7) (oi := ⟨some 70, _, _, _, _, _⟩) (v := ?_) rfl (by kernel_rfl) (by kernel_rfl) (by kernel_rfl) (fun _ _ _ h => h) (Or.inl ⟨by rfl, ?_⟩) (by assumption) ?_
              rotate_left
              · ((intro w hSw); (try dsimp only at hSw); go_simp; (try with_reducible rfl))
              (try simp only [Act.put, List.setIfInBounds_toArray, List.set_cons_zero, List.set_cons_succ])
              refine wpAnyH_take (i := 8) (oi := ⟨some 71, _, _, _, _, _⟩) (v := ?_) rfl (by kernel_rfl) (by kernel_rfl) (by kernel_rfl) (fun _ _ _ h => h) (Or.inl ⟨by rfl, ?_⟩) (by assumption) ?_
              rotate_left
              · ((intro w hSw); (try dsimp only at hSw); go_simp; (try with_reducible rfl))
              (try simp only [Act.put, List.setIfInBounds_toArray, List.set_cons_zero, List.set_cons_succ])
              refine wpAnyH_take (i := 9) (oi := ⟨some 72, _, _, _, _, _⟩) (v := ?_) rfl (by kernel_rfl) (by kernel_rfl) (by kernel_rfl) (fun _ _ _ h => h) (Or.inl ⟨by rfl, ?_⟩) (by assumption) ?_
              rotate_left
              · ((intro w hSw); (try dsimp only at hSw); go_simp; (try with_reducible rfl))
              (try simp only [Act.put, List.setIfInBounds_toArray, List.set_cons_zero, List.set_cons_succ])
              refine wpAnyH_take (i := 10) (oi := ⟨some 73, _, _, _, _, _⟩) (v := ?_) rfl (by kernel_rfl) (by kernel_rfl) (by kernel_rfl) (fun _ _ _ h => h) (Or.inl ⟨by rfl, ?_⟩) (by assumption) ?_
              rotate_left
              · ((intro w hSw); (try dsimp only at hSw); go_simp; (try with_reducible rfl))
              (try simp only [Act.put, List.setIfInBounds_toArray, List.set_cons_zero, List.set_cons_succ])
              refine wpAnyH_ready (rs := [4]) (by kernel_rfl) (by simp) ?_
              refine AllReadyH.cons (o := ⟨some 67, _, _, _, _, _⟩) rfl (fun K hK => ?_) AllReadyH.nil
              obtain ⟨hS1, hS2⟩ := hHeld
              go_simp
              (go_at_call 89; (with_reducible refine (PO.out _).mono ?_); rintro e w' ⟨rfl, rfl⟩)
              refine hK.out _ _ (by (try dsimp only); (first | exact ⟨hS1, hS2⟩ | exact ⟨Step.of, (bcell (fut _ _)).1⟩)) (fun hHeld => ?_)
              clear hK K
              (try simp only [Act.put, List.setIfInBounds_toArray, List.set_cons_zero, List.set_cons_succ])
              refine wpAnyH_ready (rs := [11]) (by kernel_rfl) (by simp) ?_
              refine AllReadyH.cons (o := ⟨some 74, _, _, _, _, _⟩) rfl (fun K hK => ?_) AllReadyH.nil
              obtain ⟨hS1, hS2⟩ := hHeld
              go_simp
              (go_at_call 88; (with_reducible refine (PS2.out _).mono ?_); rintro e w6 ⟨rfl, hs6⟩)
              refine hK.out _ _ (by (try dsimp only); (first | exact ⟨hS1, hS2⟩ | exact ⟨Step.of, (bcell (fut _ _)).1⟩)) (fun hHeld => ?_)
              clear hK K
              (try simp only [Act.put, List.setIfInBounds_toArray, List.set_cons_zero, List.set_cons_succ])
              refine wpAnyH_done (by kernel_rfl) ?_ _
              obtain ⟨hS1, hS2⟩ := hHeld
              clear x0 x1 x2 x3 lx y_0 y_1 y_2 y_3 ly n0 n1 n2 n3 n4 n5 n6 n7 n8 hlt1 hS2
              cases y2
              all_goals
                go_wp2_with (first | (go_at_call 58; first | (with_reducible refine (pof_k1 _ _ (by first | rfl | simp)).mono ?_; rintro e w' ⟨rfl, rfl⟩) | (with_reducible refine (pof_k0 _ _ (by first | rfl | simp)).mono ?_; rintro e w' ⟨rfl, rfl⟩) | (with_reducible refine (pof_k2 _ _ (by first | rfl | simp)).mono ?_; rintro e w' ⟨rfl, rfl⟩)))
                go_ret
                exact ⟨by rw [← HTR.out, HR2.out]; rfl, Step.of⟩
      · have HR2 := HRP.out
        rw [if_neg hnr] at HR2
        have HR2 := hide HR2; clear HRP
        go_wp2_with fail
        go_ret
        exact ⟨by rw [← HTR.out, HR2.out]; rfl, Step.of⟩
end Go.Proofs.YtafgfehjdbomfaaDoor
