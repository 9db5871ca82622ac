/-
  Plain facts on values, predicates and truths: no program in sight.
-/
import Derived.Test.YtinpnginjpfbpaaDoorData
namespace Go.Proofs.YtinpnginjpfbpaaDoor
open Go.RowKit

structure Val where
  kind : Int
  i : Int
  b : Bool
  s : ByteArray

def Val.cells (v : Val) : List Value := [.int .i64 v.kind, .int .i64 v.i, .bool v.b, .string v.s]
def Val.val (v : Val) : Value := .agg #[.int .i64 v.kind, .int .i64 v.i, .bool v.b, .string v.s]
def Val.zero : Val := ⟨0, 0, false, .empty⟩
/-- A value's kind; of none that there is 0. -/
def kindV (v : Val) : Int := if v.kind = 1 ∨ v.kind = 2 ∨ v.kind = 3 then v.kind else 0
def clean (v : Val) : Val := if v.kind = 1 then ⟨1, v.i, false, .empty⟩ else if v.kind = 2 then ⟨2, 0, v.b, .empty⟩ else if v.kind = 3 then ⟨3, 0, false, v.s⟩ else Val.zero
def strLt (a b : ByteArray) : Bool := Op.bytesLess a.toList b.toList
def lessV (a b : Val) : Bool :=
  if kindV a ≠ kindV b then decide (kindV a < kindV b)
  else if kindV a = 1 then decide (a.i < b.i)
  else if kindV a = 2 then !a.b && b.b
  else if kindV a = 3 then strLt a.s b.s
  else false
def cmpV (a b : Val) : Int := if lessV a b then -1 else if lessV b a then 1 else 0

theorem kindV_bd (v : Val) : 0 ≤ kindV v ∧ kindV v ≤ 3 := by unfold kindV; split <;> omega
theorem clean_kind (v : Val) : (clean v).kind = kindV v := by
  unfold clean kindV
  by_cases h1 : v.kind = 1
  · simp [h1]
  by_cases h2 : v.kind = 2
  · simp [h2]
  by_cases h3 : v.kind = 3
  · simp [h3]
  simp [h1, h2, h3, Val.zero]
theorem kindV_clean (v : Val) : kindV (clean v) = kindV v := by
  have h := clean_kind v
  have hb := kindV_bd v
  show (if (clean v).kind = 1 ∨ (clean v).kind = 2 ∨ (clean v).kind = 3 then (clean v).kind else 0) = _
  rw [h]
  split <;> omega
theorem clean_i {v : Val} (h : kindV v = 1) : (clean v).i = v.i := by
  have h1 : v.kind = 1 := by unfold kindV at h; split at h <;> omega
  simp [clean, h1]
theorem clean_b {v : Val} (h : kindV v = 2) : (clean v).b = v.b := by
  have h1 : v.kind = 2 := by unfold kindV at h; split at h <;> omega
  simp [clean, h1]
theorem clean_s {v : Val} (h : kindV v = 3) : (clean v).s = v.s := by
  have h1 : v.kind = 3 := by unfold kindV at h; split at h <;> omega
  simp [clean, h1]
theorem lessV_clean_l (a b : Val) : lessV (clean a) b = lessV a b := by
  unfold lessV
  rw [kindV_clean]
  split
  · rfl
  split
  · rw [clean_i (by assumption)]
  split
  · rw [clean_b (by assumption)]
  split
  · rw [clean_s (by assumption)]
  rfl
theorem lessV_clean_r (a b : Val) : lessV a (clean b) = lessV a b := by
  unfold lessV
  rw [kindV_clean]
  split
  · rfl
  rename_i h
  have h : kindV a = kindV b := by simpa using h
  split
  · rw [clean_i (by omega)]
  split
  · rw [clean_b (by omega)]
  split
  · rw [clean_s (by omega)]
  rfl
theorem bytesLess_asymm : ∀ (a b : List UInt8), Op.bytesLess a b = true → Op.bytesLess b a = false
  | a, [], h => by cases a <;> simp [Op.bytesLess] at h
  | [], _ :: _, _ => by simp [Op.bytesLess]
  | x :: xs, y :: ys, h => by
    have ih := bytesLess_asymm xs ys
    simp only [Op.bytesLess, Bool.or_eq_true, Bool.and_eq_true, decide_eq_true_eq, beq_iff_eq] at h
    simp only [Op.bytesLess, Bool.or_eq_false_iff, Bool.and_eq_false_iff, decide_eq_false_iff_not]
    rcases h with h | ⟨rfl, h⟩
    · refine ⟨?_, .inl ?_⟩
      · simp only [UInt8.lt_iff_toNat_lt] at *; omega
      · simp only [beq_eq_false_iff_ne, ne_eq]
        rintro rfl
        simp at h
    · refine ⟨?_, .inr (ih h)⟩
      simp
theorem lessV_asymm {a b : Val} (h : lessV a b = true) : lessV b a = false := by
  unfold lessV at h ⊢
  by_cases hk : kindV a = kindV b
  · rw [if_neg (by simpa using hk)] at h
    rw [if_neg (by simpa using hk.symm), ← hk]
    split at h
    · rename_i h1
      rw [if_pos h1]
      simp at h ⊢; omega
    split at h
    · rename_i h1 h2
      rw [if_neg h1, if_pos h2]
      cases ha : a.b <;> cases hb : b.b <;> simp_all
    split at h
    · rename_i h1 h2 h3
      rw [if_neg h1, if_neg h2, if_pos h3]
      exact bytesLess_asymm _ _ h
    cases h
  · rw [if_pos (by simpa using hk)] at h
    rw [if_pos (by simpa using fun e => hk e.symm)]
    simp at h ⊢; omega

/-- Does a value stand so to another? -/
def standB (cmp : Int) (a b : Val) : Bool :=
  if cmp = 0 then !lessV a b && !lessV b a else if cmp = 1 then lessV a b || lessV b a else if cmp = 2 then lessV a b else if cmp = 3 then !lessV b a else if cmp = 4 then lessV b a else !lessV a b
def standR (cmp c : Int) : Bool :=
  if cmp = 0 then c == 0 else if cmp = 1 then c != 0 else if cmp = 2 then decide (c < 0) else if cmp = 3 then decide (c ≤ 0) else if cmp = 4 then decide (0 < c) else decide (0 ≤ c)
theorem standR_cmp (cmp : Int) (a b : Val) : standR cmp (cmpV a b) = standB cmp a b := by
  have h1 := @lessV_asymm a b
  unfold standR standB cmpV
  cases hx : lessV a b <;> cases hy : lessV b a <;> simp_all
theorem standB_clean (cmp : Int) (a b : Val) : standB cmp (clean a) b = standB cmp a b := by
  unfold standB
  rw [lessV_clean_l, lessV_clean_r]
def truthI (b : Bool) : Int := if b then 1 else 0

/-- A predicate's node. -/
structure Nod where
  kind : Int
  col : ByteArray
  cmp : Int
  v : Val
  l : Int
  r : Int
def Nod.cells (n : Nod) : List Value := [.int .i64 n.kind, .string n.col, .int .i64 n.cmp, .int .i64 n.v.kind, .int .i64 n.v.i, .bool n.v.b, .string n.v.s, .int .i64 n.l, .int .i64 n.r]
def Nod.val (n : Nod) : Value := .agg #[.int .i64 n.kind, .string n.col, .int .i64 n.cmp, n.v.val, .int .i64 n.l, .int .i64 n.r]

def leafT (n : Nod) (v : Val) : Int := if n.kind = 0 then 1 else if n.kind = 2 then truthI (kindV v == 0) else if kindV v = 0 then 2 else truthI (standB n.cmp v n.v)
def joinT (kind a b : Int) : Int :=
  if kind = 3 then (if a = 2 then 2 else truthI (a == 0))
  else if kind = 4 ∧ (a = 0 ∨ b = 0) then 0 else if kind = 5 ∧ (a = 1 ∨ b = 1) then 1 else if a = 2 ∨ b = 2 then 2 else truthI (kind == 4)
/-- The document's both and turned. -/
def bothR (or : Bool) (a b : Int) : Int := let st : Int := if or then 1 else 0; if a = st ∨ b = st then st else if a = 2 ∨ b = 2 then 2 else 1 - st
def turnR (a : Int) : Int := if a = 2 then a else 1 - a
def Tr (a : Int) : Prop := a = 0 ∨ a = 1 ∨ a = 2
theorem both_and {a b : Int} (ha : Tr a) (hb : Tr b) : bothR false a b = joinT 4 a b := by
  rcases ha with rfl | rfl | rfl <;> rcases hb with rfl | rfl | rfl <;> decide
theorem both_or {a b : Int} (ha : Tr a) (hb : Tr b) : bothR true a b = joinT 5 a b := by
  rcases ha with rfl | rfl | rfl <;> rcases hb with rfl | rfl | rfl <;> decide
theorem turn_join {a : Int} (ha : Tr a) : turnR a = joinT 3 a a := by
  rcases ha with rfl | rfl | rfl <;> decide
theorem truthI_tr (b : Bool) : Tr (truthI b) := by cases b <;> simp [truthI, Tr]
theorem leafT_tr (n : Nod) (v : Val) : Tr (leafT n v) := by
  unfold leafT
  repeat' split
  all_goals first | exact truthI_tr _ | simp [Tr]
theorem joinT_tr (k a b : Int) : Tr (joinT k a b) := by
  unfold joinT
  repeat' split
  all_goals first | exact truthI_tr _ | simp [Tr]

/-- May the node at a place be? -/
def ahead (k : Int) (at_ : Nat) : Bool := decide (0 ≤ k) && decide (k < at_)
def nodB (n : Nod) (at_ : Nat) : Bool :=
  if n.kind = 0 ∨ n.kind = 2 then true
  else if n.kind = 1 then decide (0 ≤ n.cmp) && decide (n.cmp ≤ 5) && kindB n.v.kind && (n.v.kind != 3 || decide (n.v.s.size ≤ 64))
  else if n.kind = 3 then ahead n.l at_
  else if n.kind = 4 ∨ n.kind = 5 then ahead n.l at_ && ahead n.r at_
  else false
def nodsUpto (ns : List Nod) : Nat → Bool
  | 0 => true
  | k + 1 => nodsUpto ns k && (match ns[k]? with | some n => nodB n k | none => true)
def predB (ns : List Nod) : Bool := decide (ns.length ≤ 24) && nodsUpto ns ns.length
theorem nodsUpto_iff {ns : List Nod} : ∀ {k : Nat}, nodsUpto ns k = true ↔ ∀ i, i < k → ∀ n, ns[i]? = some n → nodB n i = true
  | 0 => by simp [nodsUpto]
  | k + 1 => by
    rw [nodsUpto, Bool.and_eq_true, nodsUpto_iff]
    constructor
    · rintro ⟨h1, h2⟩ i hi n hn
      rcases Nat.lt_or_eq_of_le (Nat.le_of_lt_succ hi) with h | rfl
      · exact h1 i h n hn
      · rw [hn] at h2; exact h2
    · intro h
      refine ⟨fun i hi => h i (by omega), ?_⟩
      cases hk : ns[k]? with
      | none => rfl
      | some n => exact h k (by omega) n hk
theorem nodsUpto_bad {ns : List Nod} {k : Nat} {n : Nod} (hn : ns[k]? = some n) (h : nodB n k = false) : nodsUpto ns ns.length = false := by
  cases e : nodsUpto ns ns.length with
  | false => rfl
  | true =>
    have := nodsUpto_iff.1 e k (List.getElem?_eq_some_iff.1 hn).1 n hn
    rw [h] at this; cases this

/-- What a node lacks of a schema: an error's number, or 0. -/
def nodE (s : Sch) (n : Nod) : Int :=
  if n.kind ≠ 1 ∧ n.kind ≠ 2 then 0 else if idx (named n.col) s.cols < 0 then 1501
  else if n.kind = 1 ∧ n.v.kind ≠ (s.cols.getD (s.cols.findIdx (named n.col)) ⟨0, .empty, 0⟩).kind then 1502 else 0
def firstE (s : Sch) : List Nod → Int
  | [] => 0
  | n :: r => if nodE s n ≠ 0 then nodE s n else firstE s r
def checkE (ns : List Nod) (s : Sch) : Int := if predB ns = true ∧ mayB s = true then firstE s ns else 1500
theorem firstE_hit (s : Sch) : ∀ {ns : List Nod} {k : Nat} {n : Nod}, ns[k]? = some n → (∀ i, i < k → ∀ m, ns[i]? = some m → nodE s m = 0) → nodE s n ≠ 0 → firstE s ns = nodE s n
  | [], k, n, h, _, _ => by simp at h
  | x :: r, 0, n, h, _, hn => by simp at h; subst h; simp [firstE, hn]
  | x :: r, k + 1, n, h, ha, hn => by
    have h0 := ha 0 (by omega) x rfl
    rw [firstE, if_neg (by simp [h0])]
    exact firstE_hit s (by simpa using h) (fun i hi m hm => ha (i + 1) (by omega) m (by simpa using hm)) hn
theorem firstE_zero (s : Sch) : ∀ {ns : List Nod}, (∀ i, i < ns.length → ∀ m, ns[i]? = some m → nodE s m = 0) → firstE s ns = 0
  | [], _ => rfl
  | x :: r, h => by
    rw [firstE, if_neg (by simpa using h 0 (by simp) x rfl)]
    exact firstE_zero s fun i hi m hm => h (i + 1) (by simpa using hi) m (by simpa using hm)
theorem firstE_zero_iff (s : Sch) : ∀ {ns : List Nod}, firstE s ns = 0 ↔ ∀ n ∈ ns, nodE s n = 0
  | [] => by simp [firstE]
  | x :: r => by
    rw [firstE]
    by_cases h : nodE s x = 0
    · rw [if_neg (by simp [h]), firstE_zero_iff s]; simp [h]
    · rw [if_pos h]; simp [h]

/-- Has a row a value for each column, null or of its kind? -/
def cellOk (c : Col) (v : Val) : Bool := kindV v == 0 || kindV v == c.kind
def rowUpto (cs : List Col) (vs : List Val) : Nat → Bool
  | 0 => true
  | k + 1 => rowUpto cs vs k && (match cs[k]?, vs[k]? with | some c, some v => cellOk c v | _, _ => true)
def rowB (s : Sch) (vs : List Val) : Bool := decide (vs.length = s.cols.length) && rowUpto s.cols vs s.cols.length
theorem rowUpto_iff {cs : List Col} {vs : List Val} : ∀ {k : Nat}, rowUpto cs vs k = true ↔ ∀ i, i < k → ∀ c v, cs[i]? = some c → vs[i]? = some v → cellOk c v = true
  | 0 => by simp [rowUpto]
  | k + 1 => by
    rw [rowUpto, Bool.and_eq_true, rowUpto_iff]
    constructor
    · rintro ⟨h1, h2⟩ i hi c v hc hv
      rcases Nat.lt_or_eq_of_le (Nat.le_of_lt_succ hi) with h | rfl
      · exact h1 i h c v hc hv
      · rw [hc, hv] at h2; exact h2
    · intro h
      refine ⟨fun i hi => h i (by omega), ?_⟩
      cases hc : cs[k]? with
      | none => rfl
      | some c =>
        cases hv : vs[k]? with
        | none => rfl
        | some v => exact h k (by omega) c v hc hv
theorem rowUpto_bad {cs : List Col} {vs : List Val} {k : Nat} {c : Col} {v : Val} (hc : cs[k]? = some c) (hv : vs[k]? = some v) (h : cellOk c v = false) : rowUpto cs vs cs.length = false := by
  cases e : rowUpto cs vs cs.length with
  | false => rfl
  | true =>
    have := rowUpto_iff.1 e k (List.getElem?_eq_some_iff.1 hc).1 c v hc hv
    rw [h] at this; cases this

/-- A node's truth, of those ahead of it. -/
def stepT (s : Sch) (vs : List Val) (acc : List Int) (n : Nod) : Int :=
  if n.kind = 0 then 1 else if n.kind = 1 ∨ n.kind = 2 then leafT n (vs.getD (s.cols.findIdx (named n.col)) Val.zero)
  else if n.kind = 3 then joinT 3 (acc.getD n.l.toNat 0) (acc.getD n.l.toNat 0) else joinT n.kind (acc.getD n.l.toNat 0) (acc.getD n.r.toNat 0)
def evalT (s : Sch) (vs : List Val) (ns : List Nod) : List Int := ns.foldl (fun acc n => acc ++ [stepT s vs acc n]) []
def lastT (l : List Int) : Int := l.getLastD 1
def truthR (ns : List Nod) (s : Sch) (vs : List Val) : Int × Int :=
  if checkE ns s ≠ 0 then (0, checkE ns s) else if rowB s vs = true then (lastT (evalT s vs ns), 0) else (0, 1500)
theorem evalT_snoc (s : Sch) (vs : List Val) (ns : List Nod) (n : Nod) : evalT s vs (ns ++ [n]) = evalT s vs ns ++ [stepT s vs (evalT s vs ns) n] := by simp [evalT]
theorem evalT_len (s : Sch) (vs : List Val) (ns : List Nod) : (evalT s vs ns).length = ns.length := by
  have : ∀ (l : List Nod) (acc : List Int), (l.foldl (fun acc n => acc ++ [stepT s vs acc n]) acc).length = acc.length + l.length := by
    intro l
    induction l with
    | nil => simp
    | cons x r ih => intro acc; simp [ih]; omega
  simpa [evalT] using this ns []
theorem evalT_take (s : Sch) (vs : List Val) (ns : List Nod) (k : Nat) (n : Nod) (h : ns[k]? = some n) : evalT s vs (ns.take (k + 1)) = evalT s vs (ns.take k) ++ [stepT s vs (evalT s vs (ns.take k)) n] := by
  rw [List.take_add_one, h]
  exact evalT_snoc _ _ _ _
theorem stepT_tr (s : Sch) (vs : List Val) (acc : List Int) (n : Nod) : Tr (stepT s vs acc n) := by
  unfold stepT
  repeat' split
  all_goals first | exact leafT_tr _ _ | exact joinT_tr _ _ _ | simp [Tr]
theorem evalT_tr (s : Sch) (vs : List Val) (ns : List Nod) : ∀ x ∈ evalT s vs ns, Tr x := by
  have : ∀ (l : List Nod) (acc : List Int), (∀ x ∈ acc, Tr x) → ∀ x ∈ l.foldl (fun acc n => acc ++ [stepT s vs acc n]) acc, Tr x := by
    intro l
    induction l with
    | nil => intro acc h; simpa using h
    | cons x r ih =>
      intro acc h
      rw [List.foldl_cons]
      refine ih _ fun y hy => ?_
      rcases List.mem_append.1 hy with hy | hy
      · exact h y hy
      · simp at hy; subst hy; exact stepT_tr _ _ _ _
  exact this ns [] (by simp)
theorem lastT_tr (s : Sch) (vs : List Val) (ns : List Nod) : Tr (lastT (evalT s vs ns)) := by
  unfold lastT
  rw [List.getLastD_eq_getLast?]
  cases h : (evalT s vs ns).getLast? with
  | none => simp [Tr]
  | some x => exact evalT_tr s vs ns x (List.mem_of_getLast? h)

/-- The columns that a predicate names. -/
def asks (n : Nod) : Bool := n.kind == 1 || n.kind == 2
def colsStep (acc : List ByteArray) (n : Nod) : List ByteArray := if asks n && !acc.any (fun c => c.toList == n.col.toList) then acc ++ [n.col] else acc
def colsT (ns : List Nod) : List ByteArray := if predB ns then ns.foldl colsStep [] else []
theorem colsStep_len (acc : List ByteArray) (n : Nod) : (colsStep acc n).length ≤ acc.length + 1 := by unfold colsStep; split <;> simp
theorem cols_take (ns : List Nod) (k : Nat) (n : Nod) (h : ns[k]? = some n) : (ns.take (k + 1)).foldl colsStep [] = colsStep ((ns.take k).foldl colsStep []) n := by
  rw [List.take_add_one, h]
  simp
theorem cols_len (ns : List Nod) : (ns.foldl colsStep []).length ≤ ns.length := by
  have : ∀ (l : List Nod) (acc : List ByteArray), (l.foldl colsStep acc).length ≤ acc.length + l.length := by
    intro l
    induction l with
    | nil => simp
    | cons x r ih => intro acc; have := ih (colsStep acc x); have h2 := colsStep_len acc x; simp only [List.foldl_cons, List.length_cons]; omega
  simpa using this ns []
end Go.Proofs.YtinpnginjpfbpaaDoor
