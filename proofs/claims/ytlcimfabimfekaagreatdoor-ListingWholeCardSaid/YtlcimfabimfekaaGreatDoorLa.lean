/-
  Keys of versions, and which versions there are: plain.
-/
import Derived.Test.YtlcimfabimfekaaGreatDoorBl
import Derived.Lib.ItoaNum
import Derived.Lib.Atoi
import Derived.Lib.Strings
import Derived.Lib.SlTrimSet
namespace Go.Proofs.YtlcimfabimfekaaGreatDoor
open Go.RowKit

def logP : List UInt8 := [108, 111, 103, 47]
def tailL (c : Bool) : List UInt8 := if c then [46, 99, 104, 101, 99, 107] else [46, 106, 115, 111, 110]
/-- The last k digits of a number. -/
def padD : Nat → Nat → List UInt8
  | 0, _ => []
  | k + 1, v => padD k (v / 10) ++ [UInt8.ofNat (48 + v % 10)]
/-- A version's key. -/
def keyL (v : Nat) (c : Bool) : List UInt8 := logP ++ padD 10 v ++ tailL c
def isDig (c : UInt8) : Bool := decide (48 ≤ c.toNat) && decide (c.toNat ≤ 57)
def valL (a : Nat) (l : List UInt8) : Nat := l.foldl (fun x c => 10 * x + (c.toNat - 48)) a
theorem valL_cons (a : Nat) (c : UInt8) (r : List UInt8) : valL a (c :: r) = valL (10 * a + (c.toNat - 48)) r := List.foldl_cons ..
theorem valL_nil (a : Nat) : valL a [] = a := List.foldl_nil ..
/-- A key's version; is it a checkpoint's? -/
def verR (s : List UInt8) : Option (Nat × Bool) :=
  if s.take 4 = logP ∧ ((s.drop 4).take 10).all isDig = true ∧ valL 0 ((s.drop 4).take 10) ≤ 2147483647 then
    if s.drop 14 = tailL false then some (valL 0 ((s.drop 4).take 10), false)
    else if s.drop 14 = tailL true then some (valL 0 ((s.drop 4).take 10), true) else none
  else none

theorem isDig_iff {c : UInt8} : isDig c = true ↔ 48 ≤ c.toNat ∧ c.toNat ≤ 57 := by simp [isDig]
theorem dig_nat (m : Nat) : (UInt8.ofNat (48 + m % 10)).toNat = 48 + m % 10 := by
  have : m % 10 < 10 := Nat.mod_lt _ (by decide)
  rw [UInt8.toNat_ofNat']
  omega
theorem padD_len : ∀ (k v : Nat), (padD k v).length = k
  | 0, _ => rfl
  | k + 1, v => by rw [padD, List.length_append, padD_len k]; rfl
theorem padD_dig : ∀ (k v : Nat), (padD k v).all isDig = true
  | 0, _ => rfl
  | k + 1, v => by
    rw [padD, List.all_append, padD_dig k]
    have h := dig_nat v
    have : v % 10 < 10 := Nat.mod_lt _ (by decide)
    simp only [List.all_cons, List.all_nil, Bool.and_true, Bool.true_and]
    exact isDig_iff.2 (by omega)
theorem valL_app : ∀ (l : List UInt8) (a : Nat) (c : UInt8), valL a (l ++ [c]) = 10 * valL a l + (c.toNat - 48)
  | [], a, c => by rw [List.nil_append, valL_cons, valL_nil, valL_nil]
  | x :: r, a, c => by rw [List.cons_append, valL_cons, valL_app r, valL_cons]
theorem val_pad : ∀ (k v : Nat), v < 10 ^ k → valL 0 (padD k v) = v
  | 0, v, h => by simp at h; subst h; rfl
  | k + 1, v, h => by
    rw [padD, valL_app, val_pad k (v / 10) (by rw [Nat.pow_succ] at h; omega), dig_nat]
    omega
theorem pad_val_at : ∀ (l : List UInt8) (k a : Nat), l.all isDig = true → padD (k + l.length) (valL a l) = padD k a ++ l ∧ valL a l < (a + 1) * 10 ^ l.length
  | [], k, a, _ => ⟨by simp [valL_nil], by simp [valL_nil]⟩
  | c :: r, k, a, h => by
    simp only [List.all_cons, Bool.and_eq_true] at h
    have hc := isDig_iff.1 h.1
    obtain ⟨h1, h2⟩ := pad_val_at r (k + 1) (10 * a + (c.toNat - 48)) h.2
    rw [valL_cons]
    refine ⟨?_, ?_⟩
    · rw [List.length_cons, show k + (r.length + 1) = k + 1 + r.length by omega, h1, padD, show (10 * a + (c.toNat - 48)) / 10 = a by omega, show 48 + (10 * a + (c.toNat - 48)) % 10 = c.toNat by omega, UInt8.ofNat_toNat, List.append_assoc]
      rfl
    · rw [List.length_cons, Nat.pow_succ]
      have h3 : 10 * a + (c.toNat - 48) + 1 ≤ (a + 1) * 10 := by omega
      have h4 := Nat.mul_le_mul_right (10 ^ r.length) h3
      rw [show (a + 1) * (10 ^ r.length * 10) = (a + 1) * 10 * 10 ^ r.length by rw [Nat.mul_comm (10 ^ r.length) 10, Nat.mul_assoc]]
      omega
theorem pad_val (l : List UInt8) (h : l.all isDig = true) : padD l.length (valL 0 l) = l ∧ valL 0 l < 10 ^ l.length := by
  have := pad_val_at l 0 0 h
  simpa [padD] using this
theorem padD_zero : ∀ k, padD k 0 = List.replicate k 48
  | 0 => rfl
  | k + 1 => by
    rw [padD, Nat.zero_div, padD_zero k, List.replicate_succ', Nat.zero_mod]
    rfl
theorem pad_dec : ∀ (k v : Nat), v < 10 ^ (k + 1) → padD (k + 1) v = List.replicate (k + 1 - (Lib.decDigits v).length) 48 ++ Lib.decDigits v ∧ (Lib.decDigits v).length ≤ k + 1 ∧ 1 ≤ (Lib.decDigits v).length
  | 0, v, h => by
    have h : v < 10 := by simpa using h
    rw [Lib.decDigits, dif_pos h, padD, padD, Nat.mod_eq_of_lt h]
    exact ⟨rfl, Nat.le_refl _, Nat.le_refl _⟩
  | k + 1, v, h => by
    rw [Lib.decDigits]
    by_cases h10 : v < 10
    · rw [dif_pos h10, padD, Nat.div_eq_of_lt h10, padD_zero, Nat.mod_eq_of_lt h10]
      exact ⟨rfl, by simp, by simp⟩
    · rw [dif_neg h10, padD]
      obtain ⟨h1, h2, h3⟩ := pad_dec k (v / 10) (by rw [Nat.pow_succ] at h; omega)
      rw [h1, List.length_append]
      simp only [List.length_cons, List.length_nil, Nat.zero_add]
      refine ⟨?_, by omega, by omega⟩
      rw [List.append_assoc, show k + 1 + 1 - ((Lib.decDigits (v / 10)).length + 1) = k + 1 - (Lib.decDigits (v / 10)).length by omega]
theorem verR_of {d : List UInt8} {c : Bool} (hd : d.length = 10) (ha : d.all isDig = true) : verR (logP ++ d ++ tailL c) = if valL 0 d ≤ 2147483647 then some (valL 0 d, c) else none := by
  have e1 : (logP ++ d ++ tailL c).take 4 = logP := by rw [List.append_assoc]; exact List.take_left' rfl
  have e2 : (logP ++ d ++ tailL c).drop 4 = d ++ tailL c := by rw [List.append_assoc]; exact List.drop_left' rfl
  have e3 : (d ++ tailL c).take 10 = d := List.take_left' hd
  have e4 : (logP ++ d ++ tailL c).drop 14 = tailL c := List.drop_left' (by rw [List.length_append, hd]; rfl)
  unfold verR
  rw [e1, e2, e3, e4]
  by_cases hv : valL 0 d ≤ 2147483647
  · rw [if_pos ⟨rfl, ha, hv⟩, if_pos hv]
    cases c with
    | false => rw [if_pos rfl]
    | true => rw [if_neg (by decide), if_pos rfl]
  · rw [if_neg (fun h => hv h.2.2), if_neg hv]
theorem verR_key {v : Nat} {c : Bool} (h : v ≤ 2147483647) : verR (keyL v c) = some (v, c) := by
  unfold keyL
  have hv := val_pad 10 v (by omega)
  rw [verR_of (padD_len 10 v) (padD_dig 10 v), hv, if_pos h]
theorem verR_some {s : List UInt8} {v : Nat} {c : Bool} (h : verR s = some (v, c)) : s = keyL v c ∧ v ≤ 2147483647 := by
  unfold verR at h
  split at h
  case isFalse => cases h
  case isTrue hc =>
    obtain ⟨h1, h2, h3⟩ := hc
    have key : ∀ c, s.drop 14 = tailL c → s = keyL (valL 0 ((s.drop 4).take 10)) c := by
      intro c hc
      have hl : 14 < s.length := by
        have := congrArg List.length hc
        rw [List.length_drop] at this
        cases c with
        | false => simp [tailL] at this; omega
        | true => simp [tailL] at this; omega
      have hl2 : ((s.drop 4).take 10).length = 10 := by rw [List.length_take, List.length_drop]; omega
      have := (pad_val _ h2).1
      rw [hl2] at this
      unfold keyL
      rw [this, ← h1, ← hc, List.append_assoc, show s.drop 14 = (s.drop 4).drop 10 by rw [List.drop_drop], List.take_append_drop, List.take_append_drop]
    split at h
    · rename_i h4
      injection h with h; injection h with e1 e2; subst e1 e2
      exact ⟨key false h4, h3⟩
    · split at h
      · rename_i h4
        injection h with h; injection h with e1 e2; subst e1 e2
        exact ⟨key true h4, h3⟩
      · cases h
theorem keyL_len (v : Nat) (c : Bool) : (keyL v c).length = if c then 20 else 19 := by
  unfold keyL
  rw [List.length_append, List.length_append, padD_len]
  cases c <;> rfl
theorem decFrom_val : ∀ (l : List UInt8) (a : Nat), l.all isDig = true → Lib.decFrom a l = some (valL a l)
  | [], a, _ => rfl
  | c :: r, a, h => by
    simp only [List.all_cons, Bool.and_eq_true] at h
    have h3 := isDig_iff.1 h.1
    rw [Lib.decFrom, Lib.digitVal, if_pos h3]
    show Lib.decFrom _ r = _
    rw [decFrom_val r _ h.2, Nat.mul_comm, valL_cons]
theorem atoi_val {l : List UInt8} (hl : l ≠ []) (h : l.all isDig = true) : Lib.atoi l = some (valL 0 l : Int) := by
  cases l with
  | nil => exact absurd rfl hl
  | cons b r =>
    have h3 := isDig_iff.1 (by simp only [List.all_cons, Bool.and_eq_true] at h; exact h.1)
    have e1 : (b == 45) = false := beq_eq_false_iff_ne.2 (by rintro rfl; simp at h3)
    have e2 : (b == 43) = false := beq_eq_false_iff_ne.2 (by rintro rfl; simp at h3)
    rw [Lib.atoi, e1, e2]
    simp only [Bool.false_eq_true, if_false]
    rw [Lib.decNat, decFrom_val _ _ h]
    rfl
def digS : List UInt8 := [48, 49, 50, 51, 52, 53, 54, 55, 56, 57]
theorem digS_fin : ∀ n : Fin 256, digS.contains (UInt8.ofNat n.val) = isDig (UInt8.ofNat n.val) := by decide +kernel
theorem digS_dig (c : UInt8) : digS.contains c = isDig c := by
  have := digS_fin ⟨c.toNat, c.toNat_lt⟩
  simpa using this
theorem drop_nil_iff {p : UInt8 → Bool} : ∀ {l : List UInt8}, l.dropWhile p = [] ↔ l.all p = true
  | [] => by simp
  | x :: r => by
    rw [List.dropWhile_cons]
    cases h : p x with
    | false => simp [h]
    | true => simp only [if_true, List.all_cons, h, Bool.true_and]; exact drop_nil_iff
theorem trim_digits (l : List UInt8) : Lib.trimS l digS = [] ↔ l.all isDig = true := by
  have hp : (fun b => digS.contains b) = isDig := by funext b; exact digS_dig b
  unfold Lib.trimS Lib.trimLeftS Lib.trimRightS
  rw [hp, drop_nil_iff]
  constructor
  · intro h
    by_cases hn : l.reverse.dropWhile isDig = []
    · have := drop_nil_iff.1 hn
      rw [List.all_reverse] at this
      exact this
    · exfalso
      cases e : l.reverse.dropWhile isDig with
      | nil => exact hn e
      | cons x r =>
        have hx : isDig x = false := by
          have := List.head_dropWhile_not isDig (l := l.reverse) hn
          simp only [e, List.head_cons] at this
          exact this
        rw [e, List.reverse_cons, List.all_append] at h
        simp [hx] at h
  · intro h
    have : l.reverse.dropWhile isDig = [] := drop_nil_iff.2 (by rw [List.all_reverse]; exact h)
    rw [this]
    rfl

/-! ### Which versions there are -/

def wholeL (C : List Nat) (lo to : Int) : Bool := (List.range (to - lo).toNat).all fun i => C.any fun c => (c : Int) == to - (i : Int)
def floorF (p : Nat → Bool) : Nat → Option Nat
  | 0 => none
  | n + 1 => if p n then some n else floorF p n
def floorR (C K : List Nat) (to : Int) : Int × Bool :=
  match floorF (fun c => K.contains c && wholeL C c to) (to + 1).toNat with
  | some c => (c, true)
  | none => (-1, wholeL C (-1) to)
def topL : List Nat → Int
  | [] => -1
  | c :: r => max (c : Int) (topL r)
def topR (C K : List Nat) : Int := max (topL C) (topL K)
def latestR (C K : List Nat) : Int × Int := if topR C K < 0 then (0, 2202) else if (floorR C K (topR C K)).2 then (topR C K, 0) else (0, 2201)
def fromR (C K : List Nat) (v : Int) : Int × Int := if v < 0 then (0, 2200) else if topR C K < v then (0, 2202) else if (floorR C K v).2 then ((floorR C K v).1, 0) else (0, 2201)
/-- The commits, or the checkpoints, among keys. -/
def versL (b : Bool) (ks : List ByteArray) : List Nat := ks.filterMap fun k => match verR k.data.toList with | some (v, c) => if c = b then some v else none | none => none

theorem wholeL_iff {C : List Nat} {lo to : Int} : wholeL C lo to = true ↔ ∀ v : Int, lo < v → v ≤ to → ∃ c ∈ C, (c : Int) = v := by
  unfold wholeL
  rw [List.all_eq_true]
  constructor
  · intro h v h1 h2
    have := h (to - v).toNat (by simp; omega)
    rw [List.any_eq_true] at this
    obtain ⟨c, hc, he⟩ := this
    exact ⟨c, hc, by have := eq_of_beq he; omega⟩
  · intro h i hi
    rw [List.mem_range] at hi
    obtain ⟨c, hc, he⟩ := h (to - i) (by omega) (by omega)
    exact List.any_eq_true.2 ⟨c, hc, by rw [he]; exact beq_self_eq_true _⟩
theorem floorF_none {p : Nat → Bool} : ∀ {n : Nat}, (∀ k, k < n → p k = false) → floorF p n = none
  | 0, _ => rfl
  | n + 1, h => by rw [floorF, h n (Nat.lt_succ_self _), if_neg (by simp)]; exact floorF_none fun k hk => h k (by omega)
theorem floorF_some {p : Nat → Bool} {c : Nat} : ∀ {n : Nat}, c < n → p c = true → (∀ k, c < k → k < n → p k = false) → floorF p n = some c
  | 0, h, _, _ => by omega
  | n + 1, h, hp, hr => by
    rw [floorF]
    by_cases e : c = n
    · subst e; rw [if_pos hp]
    · rw [hr n (by omega) (Nat.lt_succ_self _), if_neg (by simp)]
      exact floorF_some (by omega) hp fun k h1 h2 => hr k h1 (by omega)
theorem floor_hit {C K : List Nat} {to : Int} {c : Nat} (hc : c ∈ K) (hle : (c : Int) ≤ to) (hw : wholeL C c to = true) (hr : ∀ k ∈ K, c < k → (k : Int) ≤ to → wholeL C k to = false) : floorR C K to = ((c : Int), true) := by
  unfold floorR
  rw [floorF_some (c := c) (by omega) (by simp [hc, hw]) (fun k h1 h2 => by
    by_cases hk : k ∈ K
    · simp [hr k hk h1 (by omega)]
    · simp [hk])]
theorem floor_miss {C K : List Nat} {to : Int} (hr : ∀ k ∈ K, (k : Int) ≤ to → wholeL C k to = false) : floorR C K to = (-1, wholeL C (-1) to) := by
  unfold floorR
  rw [floorF_none (fun k h2 => by
    by_cases hk : k ∈ K
    · simp [hr k hk (by omega)]
    · simp [hk])]
theorem topL_ge (C : List Nat) : -1 ≤ topL C ∧ ∀ c ∈ C, (c : Int) ≤ topL C := by
  induction C with
  | nil => exact ⟨by decide, fun c h => by cases h⟩
  | cons x r ih =>
    unfold topL
    refine ⟨by omega, fun c h => ?_⟩
    rcases List.mem_cons.1 h with rfl | h
    · omega
    · have := ih.2 c h; omega
theorem topL_mem (C : List Nat) : topL C = -1 ∨ ∃ c ∈ C, topL C = (c : Int) := by
  induction C with
  | nil => exact .inl rfl
  | cons x r ih =>
    unfold topL
    by_cases h : topL r ≤ (x : Int)
    · exact .inr ⟨x, List.mem_cons_self, by omega⟩
    · rcases ih with e | ⟨c, hc, e⟩
      · omega
      · exact .inr ⟨c, List.mem_cons_of_mem _ hc, by omega⟩
theorem top_eq {C : List Nat} {t : Int} (h1 : -1 ≤ t) (h2 : ∀ c ∈ C, (c : Int) ≤ t) (h3 : t = -1 ∨ ∃ c ∈ C, t = (c : Int)) : topL C = t := by
  have ⟨a, b⟩ := topL_ge C
  rcases h3 with rfl | ⟨c, hc, e⟩
  · rcases topL_mem C with e | ⟨c, hc, e⟩
    · exact e
    · have := h2 c hc; omega
  · have := b c hc
    rcases topL_mem C with e' | ⟨c', hc', e'⟩
    · omega
    · have := h2 c' hc'; omega

/-- Numbers, each higher than the one ahead of it. -/
abbrev Rise (l : List Int) : Prop := l.Pairwise (· < ·)
theorem count_step {l : List Int} (h : Rise l) (b : Int) : l.countP (fun y => decide (y < b + 1)) = l.countP (fun y => decide (y < b)) + if b ∈ l then 1 else 0 := by
  induction l with
  | nil => rfl
  | cons x r ih =>
    have hr := List.pairwise_cons.1 h
    rw [List.countP_cons, List.countP_cons, ih hr.2]
    by_cases hx : x = b
    · subst hx
      have : x ∉ r := fun hm => by have := hr.1 x hm; omega
      simp [this]
      omega
    · have e1 : (decide (x < b + 1)) = decide (x < b) := by simp; omega
      have e2 : (b ∈ x :: r) ↔ b ∈ r := by simp [Ne.symm hx]
      simp only [e1, e2]
      omega
theorem count_span {l : List Int} (h : Rise l) (a : Int) : ∀ n : Nat, l.countP (fun y => decide (y < a)) ≤ l.countP (fun y => decide (y < a + n)) ∧ l.countP (fun y => decide (y < a + n)) ≤ l.countP (fun y => decide (y < a)) + n ∧ (l.countP (fun y => decide (y < a + n)) = l.countP (fun y => decide (y < a)) + n ↔ ∀ v, a ≤ v → v < a + n → v ∈ l)
  | 0 => by
    simp only [Int.natCast_zero, Int.add_zero, Nat.add_zero]
    exact ⟨Nat.le_refl _, Nat.le_refl _, fun _ v h1 h2 => by omega, fun _ => trivial⟩
  | n + 1 => by
    obtain ⟨h0, h1, h2⟩ := count_span h a n
    have hs := count_step h (a + n)
    rw [show a + ((n + 1 : Nat) : Int) = a + n + 1 by omega, hs]
    by_cases hm : a + (n : Int) ∈ l
    · rw [if_pos hm]
      refine ⟨by omega, by omega, ?_, ?_⟩
      · intro he v hv1 hv2
        by_cases hv : v = a + n
        · rw [hv]; exact hm
        · exact h2.1 (by omega) v hv1 (by omega)
      · intro hall
        have := h2.2 fun v hv1 hv2 => hall v hv1 (by omega)
        omega
    · rw [if_neg hm]
      refine ⟨by omega, by omega, fun he => by omega, fun hall => absurd (hall _ (by omega) (by omega)) hm⟩
/-- What two searches tell: all from one number up to another are there. -/
theorem whole_count {C : List Nat} {l : List Int} (h : Rise l) (hm : ∀ x, x ∈ l ↔ ∃ c ∈ C, (c : Int) = x) {lo to : Int} (hlt : lo < to) :
    (decide (to ∈ l) && decide ((l.countP (fun y => decide (y < to)) : Int) - (l.countP (fun y => decide (y < lo + 1)) : Int) = to - lo - 1)) = wholeL C lo to := by
  obtain ⟨h0, h1, h2⟩ := count_span h (lo + 1) (to - lo - 1).toNat
  rw [show lo + 1 + ((to - lo - 1).toNat : Int) = to by omega] at h0 h1 h2
  rw [Bool.eq_iff_iff, Bool.and_eq_true, decide_eq_true_eq, decide_eq_true_eq, wholeL_iff]
  constructor
  · rintro ⟨ht, hc⟩ v hv1 hv2
    refine (hm v).1 ?_
    by_cases e : v = to
    · rw [e]; exact ht
    · exact h2.1 (by omega) v (by omega) (by omega)
  · intro hall
    have := h2.2 fun v hv1 hv2 => (hm v).2 (hall v (by omega) (by omega))
    exact ⟨(hm to).2 (hall to hlt (Int.le_refl _)), by omega⟩
end Go.Proofs.YtlcimfabimfekaaGreatDoor
