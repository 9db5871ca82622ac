/-
  Texts put together: PrP, Sp, Ya, Yr, V.
-/
import Derived.WalkLawsBesides
import Derived.Deep.QuietTactic
import Derived.BigQuiet
import Derived.Test.YtnphokhehacfnaaGreatDoorPz00
import Derived.Test.YtnphokhehacfnaaGreatDoorPz01
namespace Go.Proofs.YtnphokhehacfnaaGreatDoor
open Go.RowKit

structure Val where
  kind : Int
  i : Int
  b : Bool
  s : ByteArray

def Val.cells (v : Val) : List Value := [.int .i64 v.kind, .int .i64 v.i, .bool v.b, .string v.s]
def Val.val (v : Val) : Value := .agg #[.int .i64 v.kind, .int .i64 v.i, .bool v.b, .string v.s]
def Val.zero : Val := ⟨0, 0, false, .empty⟩
/-- A value's kind; of none that there is 0. -/
def kindV (v : Val) : Int := if v.kind = 1 ∨ v.kind = 2 ∨ v.kind = 3 then v.kind else 0
def clean (v : Val) : Val := if v.kind = 1 then ⟨1, v.i, false, .empty⟩ else if v.kind = 2 then ⟨2, 0, v.b, .empty⟩ else if v.kind = 3 then ⟨3, 0, false, v.s⟩ else Val.zero
def strLt (a b : ByteArray) : Bool := Op.bytesLess a.toList b.toList
def lessV (a b : Val) : Bool :=
  if kindV a ≠ kindV b then decide (kindV a < kindV b)
  else if kindV a = 1 then decide (a.i < b.i)
  else if kindV a = 2 then !a.b && b.b
  else if kindV a = 3 then strLt a.s b.s
  else false
def cmpV (a b : Val) : Int := if lessV a b then -1 else if lessV b a then 1 else 0

theorem kindV_bd (v : Val) : 0 ≤ kindV v ∧ kindV v ≤ 3 := by unfold kindV; split <;> omega
theorem clean_kind (v : Val) : (clean v).kind = kindV v := by
  unfold clean kindV
  by_cases h1 : v.kind = 1
  · simp [h1]
  by_cases h2 : v.kind = 2
  · simp [h2]
  by_cases h3 : v.kind = 3
  · simp [h3]
  simp [h1, h2, h3, Val.zero]
theorem kindV_clean (v : Val) : kindV (clean v) = kindV v := by
  have h := clean_kind v
  have hb := kindV_bd v
  show (if (clean v).kind = 1 ∨ (clean v).kind = 2 ∨ (clean v).kind = 3 then (clean v).kind else 0) = _
  rw [h]
  split <;> omega
theorem clean_i {v : Val} (h : kindV v = 1) : (clean v).i = v.i := by
  have h1 : v.kind = 1 := by unfold kindV at h; split at h <;> omega
  simp [clean, h1]
theorem clean_b {v : Val} (h : kindV v = 2) : (clean v).b = v.b := by
  have h1 : v.kind = 2 := by unfold kindV at h; split at h <;> omega
  simp [clean, h1]
theorem clean_s {v : Val} (h : kindV v = 3) : (clean v).s = v.s := by
  have h1 : v.kind = 3 := by unfold kindV at h; split at h <;> omega
  simp [clean, h1]
theorem lessV_clean_l (a b : Val) : lessV (clean a) b = lessV a b := by
  unfold lessV
  rw [kindV_clean]
  split
  · rfl
  split
  · rw [clean_i (by assumption)]
  split
  · rw [clean_b (by assumption)]
  split
  · rw [clean_s (by assumption)]
  rfl
theorem lessV_clean_r (a b : Val) : lessV a (clean b) = lessV a b := by
  unfold lessV
  rw [kindV_clean]
  split
  · rfl
  rename_i h
  have h : kindV a = kindV b := by simpa using h
  split
  · rw [clean_i (by omega)]
  split
  · rw [clean_b (by omega)]
  split
  · rw [clean_s (by omega)]
  rfl
theorem bytesLess_asymm : ∀ (a b : List UInt8), Op.bytesLess a b = true → Op.bytesLess b a = false
  | a, [], h => by cases a <;> simp [Op.bytesLess] at h
  | [], _ :: _, _ => by simp [Op.bytesLess]
  | x :: xs, y :: ys, h => by
    have ih := bytesLess_asymm xs ys
    simp only [Op.bytesLess, Bool.or_eq_true, Bool.and_eq_true, decide_eq_true_eq, beq_iff_eq] at h
    simp only [Op.bytesLess, Bool.or_eq_false_iff, Bool.and_eq_false_iff, decide_eq_false_iff_not]
    rcases h with h | ⟨rfl, h⟩
    · refine ⟨?_, .inl ?_⟩
      · simp only [UInt8.lt_iff_toNat_lt] at *; omega
      · simp only [beq_eq_false_iff_ne, ne_eq]
        rintro rfl
        simp at h
    · refine ⟨?_, .inr (ih h)⟩
      simp
theorem lessV_asymm {a b : Val} (h : lessV a b = true) : lessV b a = false := by
  unfold lessV at h ⊢
  by_cases hk : kindV a = kindV b
  · rw [if_neg (by simpa using hk)] at h
    rw [if_neg (by simpa using hk.symm), ← hk]
    split at h
    · rename_i h1
      rw [if_pos h1]
      simp at h ⊢; omega
    split at h
    · rename_i h1 h2
      rw [if_neg h1, if_pos h2]
      cases ha : a.b <;> cases hb : b.b <;> simp_all
    split at h
    · rename_i h1 h2 h3
      rw [if_neg h1, if_neg h2, if_pos h3]
      exact bytesLess_asymm _ _ h
    cases h
  · rw [if_pos (by simpa using hk)] at h
    rw [if_pos (by simpa using fun e => hk e.symm)]
    simp at h ⊢; omega

/-- Does a value stand so to another? -/
def standB (cmp : Int) (a b : Val) : Bool :=
  if cmp = 0 then !lessV a b && !lessV b a else if cmp = 1 then lessV a b || lessV b a else if cmp = 2 then lessV a b else if cmp = 3 then !lessV b a else if cmp = 4 then lessV b a else !lessV a b
def standR (cmp c : Int) : Bool :=
  if cmp = 0 then c == 0 else if cmp = 1 then c != 0 else if cmp = 2 then decide (c < 0) else if cmp = 3 then decide (c ≤ 0) else if cmp = 4 then decide (0 < c) else decide (0 ≤ c)
theorem standB_clean (cmp : Int) (a b : Val) : standB cmp (clean a) b = standB cmp a b := by
  unfold standB
  rw [lessV_clean_l, lessV_clean_r]
def truthI (b : Bool) : Int := if b then 1 else 0

/-- A predicate's node. -/
structure Nod where
  kind : Int
  col : ByteArray
  cmp : Int
  v : Val
  l : Int
  r : Int
def Nod.cells (n : Nod) : List Value := [.int .i64 n.kind, .string n.col, .int .i64 n.cmp, .int .i64 n.v.kind, .int .i64 n.v.i, .bool n.v.b, .string n.v.s, .int .i64 n.l, .int .i64 n.r]
def Nod.val (n : Nod) : Value := .agg #[.int .i64 n.kind, .string n.col, .int .i64 n.cmp, n.v.val, .int .i64 n.l, .int .i64 n.r]

def leafT (n : Nod) (v : Val) : Int := if n.kind = 0 then 1 else if n.kind = 2 then truthI (kindV v == 0) else if kindV v = 0 then 2 else truthI (standB n.cmp v n.v)
def joinT (kind a b : Int) : Int :=
  if kind = 3 then (if a = 2 then 2 else truthI (a == 0))
  else if kind = 4 ∧ (a = 0 ∨ b = 0) then 0 else if kind = 5 ∧ (a = 1 ∨ b = 1) then 1 else if a = 2 ∨ b = 2 then 2 else truthI (kind == 4)
/-- The document's both and turned. -/
def bothR (or : Bool) (a b : Int) : Int := let st : Int := if or then 1 else 0; if a = st ∨ b = st then st else if a = 2 ∨ b = 2 then 2 else 1 - st
def turnR (a : Int) : Int := if a = 2 then a else 1 - a
def Tr (a : Int) : Prop := a = 0 ∨ a = 1 ∨ a = 2
theorem truthI_tr (b : Bool) : Tr (truthI b) := by cases b <;> simp [truthI, Tr]
theorem leafT_tr (n : Nod) (v : Val) : Tr (leafT n v) := by
  unfold leafT
  repeat' split
  all_goals first | exact truthI_tr _ | simp [Tr]
theorem joinT_tr (k a b : Int) : Tr (joinT k a b) := by
  unfold joinT
  repeat' split
  all_goals first | exact truthI_tr _ | simp [Tr]

/-- May the node at a place be? -/
def ahead (k : Int) (at_ : Nat) : Bool := decide (0 ≤ k) && decide (k < at_)
def nodB (n : Nod) (at_ : Nat) : Bool :=
  if n.kind = 0 ∨ n.kind = 2 then true
  else if n.kind = 1 then decide (0 ≤ n.cmp) && decide (n.cmp ≤ 5) && kindB n.v.kind && (n.v.kind != 3 || decide (n.v.s.size ≤ 64))
  else if n.kind = 3 then ahead n.l at_
  else if n.kind = 4 ∨ n.kind = 5 then ahead n.l at_ && ahead n.r at_
  else false
def nodsUpto (ns : List Nod) : Nat → Bool
  | 0 => true
  | k + 1 => nodsUpto ns k && (match ns[k]? with | some n => nodB n k | none => true)
def predB (ns : List Nod) : Bool := decide (ns.length ≤ 24) && nodsUpto ns ns.length
theorem nodsUpto_iff {ns : List Nod} : ∀ {k : Nat}, nodsUpto ns k = true ↔ ∀ i, i < k → ∀ n, ns[i]? = some n → nodB n i = true
  | 0 => by simp [nodsUpto]
  | k + 1 => by
    rw [nodsUpto, Bool.and_eq_true, nodsUpto_iff]
    constructor
    · rintro ⟨h1, h2⟩ i hi n hn
      rcases Nat.lt_or_eq_of_le (Nat.le_of_lt_succ hi) with h | rfl
      · exact h1 i h n hn
      · rw [hn] at h2; exact h2
    · intro h
      refine ⟨fun i hi => h i (by omega), ?_⟩
      cases hk : ns[k]? with
      | none => rfl
      | some n => exact h k (by omega) n hk
theorem nodsUpto_bad {ns : List Nod} {k : Nat} {n : Nod} (hn : ns[k]? = some n) (h : nodB n k = false) : nodsUpto ns ns.length = false := by
  cases e : nodsUpto ns ns.length with
  | false => rfl
  | true =>
    have := nodsUpto_iff.1 e k (List.getElem?_eq_some_iff.1 hn).1 n hn
    rw [h] at this; cases this

/-- What a node lacks of a schema: an error's number, or 0. -/
def nodE (s : Sch) (n : Nod) : Int :=
  if n.kind ≠ 1 ∧ n.kind ≠ 2 then 0 else if idx (named n.col) s.cols < 0 then 1501
  else if n.kind = 1 ∧ n.v.kind ≠ (s.cols.getD (s.cols.findIdx (named n.col)) ⟨0, .empty, 0⟩).kind then 1502 else 0
def firstE (s : Sch) : List Nod → Int
  | [] => 0
  | n :: r => if nodE s n ≠ 0 then nodE s n else firstE s r
def checkE (ns : List Nod) (s : Sch) : Int := if predB ns = true ∧ mayB s = true then firstE s ns else 1500
theorem firstE_hit (s : Sch) : ∀ {ns : List Nod} {k : Nat} {n : Nod}, ns[k]? = some n → (∀ i, i < k → ∀ m, ns[i]? = some m → nodE s m = 0) → nodE s n ≠ 0 → firstE s ns = nodE s n
  | [], k, n, h, _, _ => by simp at h
  | x :: r, 0, n, h, _, hn => by simp at h; subst h; simp [firstE, hn]
  | x :: r, k + 1, n, h, ha, hn => by
    have h0 := ha 0 (by omega) x rfl
    rw [firstE, if_neg (by simp [h0])]
    exact firstE_hit s (by simpa using h) (fun i hi m hm => ha (i + 1) (by omega) m (by simpa using hm)) hn
theorem firstE_zero (s : Sch) : ∀ {ns : List Nod}, (∀ i, i < ns.length → ∀ m, ns[i]? = some m → nodE s m = 0) → firstE s ns = 0
  | [], _ => rfl
  | x :: r, h => by
    rw [firstE, if_neg (by simpa using h 0 (by simp) x rfl)]
    exact firstE_zero s fun i hi m hm => h (i + 1) (by simpa using hi) m (by simpa using hm)
theorem firstE_zero_iff (s : Sch) : ∀ {ns : List Nod}, firstE s ns = 0 ↔ ∀ n ∈ ns, nodE s n = 0
  | [] => by simp [firstE]
  | x :: r => by
    rw [firstE]
    by_cases h : nodE s x = 0
    · rw [if_neg (by simp [h]), firstE_zero_iff s]; simp [h]
    · rw [if_pos h]; simp [h]

/-- Has a row a value for each column, null or of its kind? -/
def cellOk (c : Col) (v : Val) : Bool := kindV v == 0 || kindV v == c.kind
def rowUpto (cs : List Col) (vs : List Val) : Nat → Bool
  | 0 => true
  | k + 1 => rowUpto cs vs k && (match cs[k]?, vs[k]? with | some c, some v => cellOk c v | _, _ => true)
def rowB (s : Sch) (vs : List Val) : Bool := decide (vs.length = s.cols.length) && rowUpto s.cols vs s.cols.length
theorem rowUpto_iff {cs : List Col} {vs : List Val} : ∀ {k : Nat}, rowUpto cs vs k = true ↔ ∀ i, i < k → ∀ c v, cs[i]? = some c → vs[i]? = some v → cellOk c v = true
  | 0 => by simp [rowUpto]
  | k + 1 => by
    rw [rowUpto, Bool.and_eq_true, rowUpto_iff]
    constructor
    · rintro ⟨h1, h2⟩ i hi c v hc hv
      rcases Nat.lt_or_eq_of_le (Nat.le_of_lt_succ hi) with h | rfl
      · exact h1 i h c v hc hv
      · rw [hc, hv] at h2; exact h2
    · intro h
      refine ⟨fun i hi => h i (by omega), ?_⟩
      cases hc : cs[k]? with
      | none => rfl
      | some c =>
        cases hv : vs[k]? with
        | none => rfl
        | some v => exact h k (by omega) c v hc hv
theorem rowUpto_bad {cs : List Col} {vs : List Val} {k : Nat} {c : Col} {v : Val} (hc : cs[k]? = some c) (hv : vs[k]? = some v) (h : cellOk c v = false) : rowUpto cs vs cs.length = false := by
  cases e : rowUpto cs vs cs.length with
  | false => rfl
  | true =>
    have := rowUpto_iff.1 e k (List.getElem?_eq_some_iff.1 hc).1 c v hc hv
    rw [h] at this; cases this

/-- A node's truth, of those ahead of it. -/
def stepT (s : Sch) (vs : List Val) (acc : List Int) (n : Nod) : Int :=
  if n.kind = 0 then 1 else if n.kind = 1 ∨ n.kind = 2 then leafT n (vs.getD (s.cols.findIdx (named n.col)) Val.zero)
  else if n.kind = 3 then joinT 3 (acc.getD n.l.toNat 0) (acc.getD n.l.toNat 0) else joinT n.kind (acc.getD n.l.toNat 0) (acc.getD n.r.toNat 0)
def evalT (s : Sch) (vs : List Val) (ns : List Nod) : List Int := ns.foldl (fun acc n => acc ++ [stepT s vs acc n]) []
def lastT (l : List Int) : Int := l.getLastD 1
def truthR (ns : List Nod) (s : Sch) (vs : List Val) : Int × Int :=
  if checkE ns s ≠ 0 then (0, checkE ns s) else if rowB s vs = true then (lastT (evalT s vs ns), 0) else (0, 1500)
theorem evalT_snoc (s : Sch) (vs : List Val) (ns : List Nod) (n : Nod) : evalT s vs (ns ++ [n]) = evalT s vs ns ++ [stepT s vs (evalT s vs ns) n] := by simp [evalT]
theorem evalT_len (s : Sch) (vs : List Val) (ns : List Nod) : (evalT s vs ns).length = ns.length := by
  have : ∀ (l : List Nod) (acc : List Int), (l.foldl (fun acc n => acc ++ [stepT s vs acc n]) acc).length = acc.length + l.length := by
    intro l
    induction l with
    | nil => simp
    | cons x r ih => intro acc; simp [ih]; omega
  simpa [evalT] using this ns []
theorem evalT_take (s : Sch) (vs : List Val) (ns : List Nod) (k : Nat) (n : Nod) (h : ns[k]? = some n) : evalT s vs (ns.take (k + 1)) = evalT s vs (ns.take k) ++ [stepT s vs (evalT s vs (ns.take k)) n] := by
  rw [List.take_add_one, h]
  exact evalT_snoc _ _ _ _
theorem stepT_tr (s : Sch) (vs : List Val) (acc : List Int) (n : Nod) : Tr (stepT s vs acc n) := by
  unfold stepT
  repeat' split
  all_goals first | exact leafT_tr _ _ | exact joinT_tr _ _ _ | simp [Tr]
theorem evalT_tr (s : Sch) (vs : List Val) (ns : List Nod) : ∀ x ∈ evalT s vs ns, Tr x := by
  have : ∀ (l : List Nod) (acc : List Int), (∀ x ∈ acc, Tr x) → ∀ x ∈ l.foldl (fun acc n => acc ++ [stepT s vs acc n]) acc, Tr x := by
    intro l
    induction l with
    | nil => intro acc h; simpa using h
    | cons x r ih =>
      intro acc h
      rw [List.foldl_cons]
      refine ih _ fun y hy => ?_
      rcases List.mem_append.1 hy with hy | hy
      · exact h y hy
      · simp at hy; subst hy; exact stepT_tr _ _ _ _
  exact this ns [] (by simp)
/-- The columns that a predicate names. -/
def asks (n : Nod) : Bool := n.kind == 1 || n.kind == 2
def colsStep (acc : List ByteArray) (n : Nod) : List ByteArray := if asks n && !acc.any (fun c => c.toList == n.col.toList) then acc ++ [n.col] else acc
def colsT (ns : List Nod) : List ByteArray := if predB ns then ns.foldl colsStep [] else []
end Go.Proofs.YtnphokhehacfnaaGreatDoor

namespace Go.Proofs.YtnphokhehacfnaaGreatDoor
open Go.RowKit

/-- The columns that may stand together. -/
def Wf (next : Int) (cols : List Col) : Prop := (∀ c ∈ cols, colOk next c = true) ∧ cols.Pairwise fun d c => clash c d = false
end Go.Proofs.YtnphokhehacfnaaGreatDoor

namespace Go.Proofs.YtnphokhehacfnaaGreatDoor
open Go.RowKit

/-- Is a value null, or of a kind, and not too long? -/
def fitsB (kind : Int) (v : Val) : Bool := kindV v == 0 || (kindV v == kind && decide ((clean v).s.size ≤ 64) && validB (clean v).s)
def colB (rows last : Int) (c : Col) (vs : List Val) : Bool := decide (last < c.id) && c.name.size == 0 && kindB c.kind && decide ((vs.length : Int) = rows) && vs.all (fitsB c.kind)
def colsB (rows : Int) : Int → List Col → List (List Val) → Bool
  | last, c :: cs, v :: vs => colB rows last c v && colsB rows c.id cs vs
  | _, _, _ => true
def fileB (rows : Int) (cols : List Col) (vals : List (List Val)) : Bool :=
  decide (0 ≤ rows) && decide (rows ≤ 4096) && decide (1 ≤ cols.length) && decide (cols.length ≤ 12) && decide (vals.length = cols.length) && colsB rows 0 cols vals
/-- The place of a column's Id among a file's. -/
def byId (id : Int) (o : Col) : Bool := o.id == id
def fromOk (fc : List Col) (c : Col) : Bool := if 0 ≤ idx (byId c.id) fc then (match fc[(idx (byId c.id) fc).toNat]? with | some o => o.kind == c.kind | none => false) else true
def fromT (fc : List Col) (cs : List Col) : List Int := cs.map fun c => idx (byId c.id) fc
def toCell (vals : List (List Val)) (i : Nat) (at_ : Int) : Val := if 0 ≤ at_ then clean ((vals.getD at_.toNat []).getD i Val.zero) else Val.zero
def toRow (vals : List (List Val)) (fr : List Int) (i : Nat) : List Val := fr.map (toCell vals i)
def toR (s : Sch) (rows : Int) (fc : List Col) (vals : List (List Val)) : List (List Val) × Int :=
  if mayB s = true ∧ fileB rows fc vals = true ∧ s.cols.all (fromOk fc) = true then ((List.range rows.toNat).map (toRow vals (fromT fc s.cols)), 0) else ([], 1400)

def pickFr (cols : List Col) (names : List ByteArray) : List Int := names.map fun nm => idx (named nm) cols
def pickRow (fr : List Int) (vs : List Val) : List Val := fr.map fun k => clean (vs.getD k.toNat Val.zero)
def pickR (s : Sch) (rs : List (List Val)) (names : List ByteArray) : List (List Val) × Int :=
  if mayB s = true ∧ names.all (fun nm => decide (0 ≤ idx (named nm) s.cols)) = true ∧ rs.all (fun vs => vs.length == s.cols.length) = true then (rs.map (pickRow (pickFr s.cols names)), 0) else ([], 1400)

/-- The highest Id of a file. -/
def lastIdT (cols : List Col) : Int := cols.foldl (fun m c => max m c.id) 0
end Go.Proofs.YtnphokhehacfnaaGreatDoor

namespace Go.Proofs.YtnphokhehacfnaaGreatDoor
open Go.RowKit

def formsV : Value := .agg #[.int .i64 0, .int .i64 0, .int .i64 0, .int .i64 128, .int .i64 0, .int .i64 0, .int .i64 224, .int .i64 192, .int .i64 128, .int .i64 240, .int .i64 224, .int .i64 2048, .int .i64 248, .int .i64 240, .int .i64 65536]
theorem forms_any (w : World) : Calls Tryz.prog 201 #[] w fun e w' => e = .returned formsV ∧ Step w w' := by
  go_enter Tryz.func201, Tryz.ntmps201
  go_wp2_with fail
  refine bodyPost_ret (v := formsV) (by simp [formsV, results, Tryz.results201, go_sem]) rfl ⟨rfl, Step.of⟩
theorem umay_any (r : Int) (w : World) : Calls Tryz.prog 202 #[.int .i64 r] w fun e w' => e = .returned (.bool (mayR r)) ∧ Step w w' := by
  have HM : Hid (mayR r = (decide (0 ≤ r) && decide (r ≤ 1114111) && (decide (r < 55296) || decide (57343 < r)))) := hide rfl
  rw [HM.out]
  clear HM
  by_cases h0 : 0 ≤ r <;> by_cases h1 : r ≤ 1114111 <;> by_cases h2 : r < 55296 <;> by_cases h3 : 57343 < r
  all_goals first | (exfalso; omega) | skip
  all_goals
    go_enter Tryz.func202, Tryz.ntmps202
    go_wp2_with fail
    go_ret
    exact ⟨ret_bool (by simp; try omega), Step.of⟩

theorem next_at (s : ByteArray) {m : Nat} (h : m < s.size) : nextB s m = if 128 ≤ s[m].toNat ∧ s[m].toNat ≤ 191 then (s[m].toNat : Int) - 128 else -1 := by rw [nextB, dif_pos h]
theorem or6 {x : Int} {y : Nat} (h0 : 0 ≤ x) (h1 : x < 67108864) (hy : y < 64) : bits .or .i64 (x * 64) (y : Int) = x * 64 + y := by
  obtain ⟨a, rfl⟩ : ∃ a : Nat, x = a := ⟨x.toNat, by omega⟩
  show IntKind.i64.wrap ((BitVec.ofInt 64 ((a : Int) * 64) ||| BitVec.ofInt 64 (y : Int)).toNat : Int) = _
  have e1 : (BitVec.ofInt 64 ((a : Int) * 64)).toNat = a <<< 6 := by rw [BitVec.toNat_ofInt, Nat.shiftLeft_eq]; omega
  have e2 : (BitVec.ofInt 64 (y : Int)).toNat = y := by rw [BitVec.toNat_ofInt]; omega
  rw [BitVec.toNat_or, e1, e2, ← Nat.shiftLeft_add_eq_or_of_lt (by simpa using hy), Nat.shiftLeft_eq, IntKind.wrap_i64]
  omega
set_option maxRecDepth 100000 in
set_option maxHeartbeats 4000000 in
theorem urune_any (s : ByteArray) (at_ : Int) (w : World) (hs : s.size ≤ 9223372036854775807) :
    Calls Tryz.prog 194 #[.string s, .int .i64 at_] w fun e w' => e = .returned (.tuple #[.int .i64 (runeR s at_).1, .int .i64 (runeR s at_).2]) ∧ Step w w' := by
  by_cases h0 : at_ < 0
  · have HR : Hid (runeR s at_ = (0, 0)) := by show _ = _; rw [runeR, if_pos h0]
    rw [HR.out]
    go_enter Tryz.func194, Tryz.ntmps194
    go_wp2_with fail
    go_ret2
    exact ⟨rfl, Step.of⟩
  by_cases h1 : s.size ≤ at_
  · have HR : Hid (runeR s at_ = (0, 0)) := by show _ = _; rw [runeR, if_neg h0, runeT, dif_neg (by omega)]
    rw [HR.out]
    go_enter Tryz.func194, Tryz.ntmps194
    go_wp2_with fail
    go_ret2
    exact ⟨rfl, Step.of⟩
  obtain ⟨i, rfl⟩ : ∃ i : Nat, at_ = (i : Int) := ⟨at_.toNat, by omega⟩
  have hi : i < s.size := by omega
  have HRR : Hid (runeR s (i : Int) = runeT s i) := by show _ = _; rw [runeR, if_neg h0]; rfl
  rw [HRR.out]
  clear h0 h1 HRR
  obtain ⟨T, hT⟩ : ∃ T, runeT s i = T := ⟨_, rfl⟩
  have HT := hide hT
  rw [hT]
  clear hT
  have i0 : ∀ (w : World), (Instr.index 222 formsV (.int .i64 0)).run Tryz.prog w = .ok (.agg #[.int .i64 0, .int .i64 0, .int .i64 0]) w := fun _ => by kernel_rfl
  have i1 : ∀ (w : World), (Instr.index 222 formsV (.int .i64 1)).run Tryz.prog w = .ok (.agg #[.int .i64 128, .int .i64 0, .int .i64 0]) w := fun _ => by kernel_rfl
  have i2 : ∀ (w : World), (Instr.index 222 formsV (.int .i64 2)).run Tryz.prog w = .ok (.agg #[.int .i64 224, .int .i64 192, .int .i64 128]) w := fun _ => by kernel_rfl
  have i3 : ∀ (w : World), (Instr.index 222 formsV (.int .i64 3)).run Tryz.prog w = .ok (.agg #[.int .i64 240, .int .i64 224, .int .i64 2048]) w := fun _ => by kernel_rfl
  have i4 : ∀ (w : World), (Instr.index 222 formsV (.int .i64 4)).run Tryz.prog w = .ok (.agg #[.int .i64 248, .int .i64 240, .int .i64 65536]) w := fun _ => by kernel_rfl
  have FM := hide forms_any
  go_enter Tryz.func194, Tryz.ntmps194
  go_wp2_with (refine (FM.out _).mono ?_; rintro e w1 ⟨rfl, hs1⟩)
  have hi0 : (0 : Int) ≤ (i : Int) := by omega
  have hi1 : (i : Int) < (s.size : Int) := by omega
  have hc := s[i].toNat_lt
  obtain ⟨FT, hFT⟩ : ∃ FT, formT s[i].toNat = FT := ⟨_, rfl⟩
  have HFT := hide hFT
  have hle := form_le s[i].toNat
  rw [hFT] at hle
  clear hFT
  go_loopw [6, 7, 8, 9, 19] (fun _ _ _ _ k wr => ∃ n : Nat, n ≤ 5 ∧ n ≤ FT ∧ k = .int .i64 n ∧ Step w wr) (fun _ _ _ _ k _ => 5 - (intOf k).toNat)
  case atStart => exact ⟨0, by omega, by omega, rfl, Step.of⟩
  case round =>
    obtain ⟨n, hn, hnf, rfl, hst⟩ := hrel
    obtain ⟨wo, rfl⟩ : ∃ x : World, x = wr := ⟨_, rfl⟩
    rcases Nat.lt_or_ge n 5 with h5 | h5
    · match n, h5 with
      | 0, _ =>
        have f0 : FT ≠ 0 := by omega
        go_wp2_with fail
        go_quiet (fail)
        go_wp2_with fail
        go_roundw
        case rel => exact ⟨1, by omega, by omega, rfl, Step.of⟩
        case measure => simp [intOf]
      | 1, _ =>
        have FTEST := form_test s[i] (k := 1) (by omega)
        rw [HFT.out] at FTEST
        rcases Nat.lt_or_ge 1 FT with hlt | hge
        · have t1 : (bits .and .i64 (s[i].toNat : Int) 128 != 0) = true := by
            have : (bits .and .i64 (s[i].toNat : Int) 128 == 0) = false := by
              refine (show (bits .and .i64 (s[i].toNat : Int) (maskT 1) == headT 1) = false from ?_)
              rw [FTEST]; simp; omega
            simp only [bne, this, Bool.not_false]
          clear FTEST
          go_wp2_with fail
          go_quiet (fail)
          go_wp2_with fail
          go_roundw
          case rel => exact ⟨1 + 1, by omega, by omega, rfl, Step.of⟩
          case measure => simp [intOf]
        · obtain rfl : FT = 1 := by omega
          have t1 : (bits .and .i64 (s[i].toNat : Int) 128 != 0) = false := by
            have : (bits .and .i64 (s[i].toNat : Int) 128 == 0) = true := by
              refine (show (bits .and .i64 (s[i].toNat : Int) (maskT 1) == headT 1) = true from ?_)
              rw [FTEST]; simp
            simp only [bne, this, Bool.not_true]
          clear FTEST
          have HTE := hide (rune_end hi (n := 1) (by omega) HFT.out)
          rcases Nat.lt_or_ge s.size (i + 1) with hsh | hsh
          · exfalso; omega
          have hq : decide ((s.size : Int) - (i : Int) < 1) = false := by simp; omega
          obtain ⟨c0, hc0⟩ : ∃ c0, bits .andNot .i64 (s[i].toNat : Int) 128 = c0 := ⟨_, rfl⟩
          have HC0 : Hid (c0 = (s[i].toNat : Int) - 0) := by show _ = _; rw [← hc0]; exact form_rest s[i] (k := 1) (by omega) HFT.out
          go_wp2_with fail
          go_quiet (fail)
          go_wp2_with fail
          go_quiet (fail)
          go_wp2_with fail
          clear t1 hc0 hq
          go_loop [8, 9] (fun r k => ∃ (m : Nat) (x : Int), i + 1 ≤ m ∧ m ≤ i + 1 ∧ k = .int .i64 m ∧ r = .int .i64 x ∧ Hid (x = accT s i c0 (m - (i + 1))) ∧ Hid (∀ q, q < m - (i + 1) → 0 ≤ nextB s (i + 1 + q))) (fun _ k => s.size - (intOf k).toNat)
          case atStart => exact ⟨i + 1, c0, by omega, by omega, by go_num, rfl, by show _ = _; simp [accT], by intro q hq; omega⟩
          case round =>
            obtain ⟨m, x, hm1, hm2, rfl, rfl, HX, HG⟩ := hrel
            have hx : 0 ≤ x ∧ x < 67108864 := by rw [HX.out]; exact accT_3 (by rw [HC0.out]; have := form_1 HFT.out; omega) (by rw [HC0.out]; omega) (by omega) HG.out
            obtain ⟨hx0, hx1⟩ := hx
            rcases Nat.lt_or_ge m (i + 1) with hlt | hge
            · have hms : m < s.size := by omega
              have hml : (m : Int) < (i : Int) + 1 := by omega
              have HNX := hide (next_at s hms)
              by_cases hon : 128 ≤ s[m].toNat ∧ s[m].toNat ≤ 191
              · have hon1 : (bits .and .u8 (s[m].toNat : Int) 192 != 128) = false := by
                  have := (on_test s[m]).1
                  simp only [bne, this]; simp; omega
                have hon2 : bits .and .u8 (s[m].toNat : Int) 63 = ((s[m].toNat % 64 : Nat) : Int) := (on_test s[m]).2
                obtain ⟨y, hy⟩ : ∃ y : Nat, s[m].toNat % 64 = y := ⟨_, rfl⟩
                have hy1 : y < 64 := by omega
                rw [hy] at hon2
                have hor : bits .or .i64 (x * 64) (y : Int) = x * 64 + y := or6 hx0 hx1 hy1
                have HY : Hid (nextB s m = y) := by show _ = _; rw [HNX.out, if_pos hon]; omega
                clear hon hy
                go_wp2_with fail
                go_round
                case rel =>
                  refine ⟨m + 1, x * 64 + y, by omega, by omega, by go_num, rfl, ?_, ?_⟩
                  · show _ = _
                    have e : m + 1 - (i + 1) = (m - (i + 1)) + 1 := by omega
                    rw [e, accT, ← HX.out, show i + 1 + (m - (i + 1)) = m by omega, HY.out]
                  · intro q hq
                    rcases Nat.lt_or_ge q (m - (i + 1)) with h | h
                    · exact HG.out q h
                    · obtain rfl : q = m - (i + 1) := by omega
                      rw [show i + 1 + (m - (i + 1)) = m by omega, HY.out]
                      omega
                case measure => simp [intOf]; omega
              · have hon1 : (bits .and .u8 (s[m].toNat : Int) 192 != 128) = true := by
                  have := (on_test s[m]).1
                  simp only [bne, this]; simp; omega
                have hE : Hid (T = (0, 0)) := by
                  show _ = _
                  rw [← HT.out]
                  refine rune_cut hi (n := 1) (j := m - (i + 1)) (by omega) HFT.out (by omega) ?_
                  rw [show i + 1 + (m - (i + 1)) = m by omega, HNX.out, if_neg hon]
                  omega
                clear hon
                go_wp2_with fail
                go_ret2
                exact ⟨by rw [hE.out]; rfl, Step.of⟩
            · obtain rfl : m = i + 1 := by omega
              have HE : Hid (T = endR x 1) := by
                show _ = _
                rw [← HT.out, HTE.out (fun j hj => HG.out j (by omega)), HX.out, HC0.out, show i + 1 - (i + 1) = 1 - 1 by omega]
                rfl
              clear HG HX HTE
              by_cases hl : x < 0
              · exfalso; omega
              · have hl2 : decide (x < 0) = false := by simp; omega
                have MY := hide (umay_any x)
                cases hmy : mayR x with
                | true =>
                  have hE : Hid (T = (x, 1)) := by show _ = _; rw [HE.out, endR, show leastT 1 = 0 from rfl, if_neg hl, hmy]; rfl
                  rw [hmy] at MY
                  clear hmy hl
                  go_wp2_with (refine (MY.out _).mono ?_; rintro e w3 ⟨rfl, hs3⟩)
                  go_ret2
                  exact ⟨by rw [hE.out]; rfl, Step.of⟩
                | false =>
                  have hE : Hid (T = (0, 0)) := by show _ = _; rw [HE.out, endR, show leastT 1 = 0 from rfl, if_neg hl, hmy]; rfl
                  rw [hmy] at MY
                  clear hmy hl
                  go_wp2_with (refine (MY.out _).mono ?_; rintro e w3 ⟨rfl, hs3⟩)
                  go_ret2
                  exact ⟨by rw [hE.out]; rfl, Step.of⟩
      | 2, _ =>
        have FTEST := form_test s[i] (k := 2) (by omega)
        rw [HFT.out] at FTEST
        rcases Nat.lt_or_ge 2 FT with hlt | hge
        · have t1 : (bits .and .i64 (s[i].toNat : Int) 224 != 192) = true := by
            have : (bits .and .i64 (s[i].toNat : Int) 224 == 192) = false := by
              refine (show (bits .and .i64 (s[i].toNat : Int) (maskT 2) == headT 2) = false from ?_)
              rw [FTEST]; simp; omega
            simp only [bne, this, Bool.not_false]
          clear FTEST
          go_wp2_with fail
          go_quiet (fail)
          go_wp2_with fail
          go_roundw
          case rel => exact ⟨2 + 1, by omega, by omega, rfl, Step.of⟩
          case measure => simp [intOf]
        · obtain rfl : FT = 2 := by omega
          have t1 : (bits .and .i64 (s[i].toNat : Int) 224 != 192) = false := by
            have : (bits .and .i64 (s[i].toNat : Int) 224 == 192) = true := by
              refine (show (bits .and .i64 (s[i].toNat : Int) (maskT 2) == headT 2) = true from ?_)
              rw [FTEST]; simp
            simp only [bne, this, Bool.not_true]
          clear FTEST
          have HTE := hide (rune_end hi (n := 2) (by omega) HFT.out)
          rcases Nat.lt_or_ge s.size (i + 2) with hsh | hsh
          · have hq : decide ((s.size : Int) - (i : Int) < 2) = true := by simp; omega
            have hE : Hid (T = (0, 0)) := by show _ = _; rw [← HT.out]; exact rune_short hi (n := 2) (by omega) HFT.out hsh
            go_wp2_with fail
            go_quiet (fail)
            go_wp2_with fail
            go_ret2
            exact ⟨by rw [hE.out]; rfl, Step.of⟩
          have hq : decide ((s.size : Int) - (i : Int) < 2) = false := by simp; omega
          obtain ⟨c0, hc0⟩ : ∃ c0, bits .andNot .i64 (s[i].toNat : Int) 224 = c0 := ⟨_, rfl⟩
          have HC0 : Hid (c0 = (s[i].toNat : Int) - 192) := by show _ = _; rw [← hc0]; exact form_rest s[i] (k := 2) (by omega) HFT.out
          go_wp2_with fail
          go_quiet (fail)
          go_wp2_with fail
          go_quiet (fail)
          go_wp2_with fail
          clear t1 hc0 hq
          go_loop [8, 9] (fun r k => ∃ (m : Nat) (x : Int), i + 1 ≤ m ∧ m ≤ i + 2 ∧ k = .int .i64 m ∧ r = .int .i64 x ∧ Hid (x = accT s i c0 (m - (i + 1))) ∧ Hid (∀ q, q < m - (i + 1) → 0 ≤ nextB s (i + 1 + q))) (fun _ k => s.size - (intOf k).toNat)
          case atStart => exact ⟨i + 1, c0, by omega, by omega, by go_num, rfl, by show _ = _; simp [accT], by intro q hq; omega⟩
          case round =>
            obtain ⟨m, x, hm1, hm2, rfl, rfl, HX, HG⟩ := hrel
            have hx : 0 ≤ x ∧ x < 67108864 := by rw [HX.out]; exact accT_3 (by rw [HC0.out]; have := form_2 HFT.out; omega) (by rw [HC0.out]; omega) (by omega) HG.out
            obtain ⟨hx0, hx1⟩ := hx
            rcases Nat.lt_or_ge m (i + 2) with hlt | hge
            · have hms : m < s.size := by omega
              have hml : (m : Int) < (i : Int) + 2 := by omega
              have HNX := hide (next_at s hms)
              by_cases hon : 128 ≤ s[m].toNat ∧ s[m].toNat ≤ 191
              · have hon1 : (bits .and .u8 (s[m].toNat : Int) 192 != 128) = false := by
                  have := (on_test s[m]).1
                  simp only [bne, this]; simp; omega
                have hon2 : bits .and .u8 (s[m].toNat : Int) 63 = ((s[m].toNat % 64 : Nat) : Int) := (on_test s[m]).2
                obtain ⟨y, hy⟩ : ∃ y : Nat, s[m].toNat % 64 = y := ⟨_, rfl⟩
                have hy1 : y < 64 := by omega
                rw [hy] at hon2
                have hor : bits .or .i64 (x * 64) (y : Int) = x * 64 + y := or6 hx0 hx1 hy1
                have HY : Hid (nextB s m = y) := by show _ = _; rw [HNX.out, if_pos hon]; omega
                clear hon hy
                go_wp2_with fail
                go_round
                case rel =>
                  refine ⟨m + 1, x * 64 + y, by omega, by omega, by go_num, rfl, ?_, ?_⟩
                  · show _ = _
                    have e : m + 1 - (i + 1) = (m - (i + 1)) + 1 := by omega
                    rw [e, accT, ← HX.out, show i + 1 + (m - (i + 1)) = m by omega, HY.out]
                  · intro q hq
                    rcases Nat.lt_or_ge q (m - (i + 1)) with h | h
                    · exact HG.out q h
                    · obtain rfl : q = m - (i + 1) := by omega
                      rw [show i + 1 + (m - (i + 1)) = m by omega, HY.out]
                      omega
                case measure => simp [intOf]; omega
              · have hon1 : (bits .and .u8 (s[m].toNat : Int) 192 != 128) = true := by
                  have := (on_test s[m]).1
                  simp only [bne, this]; simp; omega
                have hE : Hid (T = (0, 0)) := by
                  show _ = _
                  rw [← HT.out]
                  refine rune_cut hi (n := 2) (j := m - (i + 1)) (by omega) HFT.out (by omega) ?_
                  rw [show i + 1 + (m - (i + 1)) = m by omega, HNX.out, if_neg hon]
                  omega
                clear hon
                go_wp2_with fail
                go_ret2
                exact ⟨by rw [hE.out]; rfl, Step.of⟩
            · obtain rfl : m = i + 2 := by omega
              have HE : Hid (T = endR x 2) := by
                show _ = _
                rw [← HT.out, HTE.out (fun j hj => HG.out j (by omega)), HX.out, HC0.out, show i + 2 - (i + 1) = 2 - 1 by omega]
                rfl
              clear HG HX HTE
              by_cases hl : x < 128
              · have hE : Hid (T = (0, 0)) := by show _ = _; rw [HE.out, endR, show leastT 2 = 128 from rfl, if_pos hl]
                go_wp2_with fail
                go_ret2
                exact ⟨by rw [hE.out]; rfl, Step.of⟩
              · have hl2 : decide (x < 128) = false := by simp; omega
                have MY := hide (umay_any x)
                cases hmy : mayR x with
                | true =>
                  have hE : Hid (T = (x, 2)) := by show _ = _; rw [HE.out, endR, show leastT 2 = 128 from rfl, if_neg hl, hmy]; rfl
                  rw [hmy] at MY
                  clear hmy hl
                  go_wp2_with (refine (MY.out _).mono ?_; rintro e w3 ⟨rfl, hs3⟩)
                  go_ret2
                  exact ⟨by rw [hE.out]; rfl, Step.of⟩
                | false =>
                  have hE : Hid (T = (0, 0)) := by show _ = _; rw [HE.out, endR, show leastT 2 = 128 from rfl, if_neg hl, hmy]; rfl
                  rw [hmy] at MY
                  clear hmy hl
                  go_wp2_with (refine (MY.out _).mono ?_; rintro e w3 ⟨rfl, hs3⟩)
                  go_ret2
                  exact ⟨by rw [hE.out]; rfl, Step.of⟩
      | 3, _ =>
        have FTEST := form_test s[i] (k := 3) (by omega)
        rw [HFT.out] at FTEST
        rcases Nat.lt_or_ge 3 FT with hlt | hge
        · have t1 : (bits .and .i64 (s[i].toNat : Int) 240 != 224) = true := by
            have : (bits .and .i64 (s[i].toNat : Int) 240 == 224) = false := by
              refine (show (bits .and .i64 (s[i].toNat : Int) (maskT 3) == headT 3) = false from ?_)
              rw [FTEST]; simp; omega
            simp only [bne, this, Bool.not_false]
          clear FTEST
          go_wp2_with fail
          go_quiet (fail)
          go_wp2_with fail
          go_roundw
          case rel => exact ⟨3 + 1, by omega, by omega, rfl, Step.of⟩
          case measure => simp [intOf]
        · obtain rfl : FT = 3 := by omega
          have t1 : (bits .and .i64 (s[i].toNat : Int) 240 != 224) = false := by
            have : (bits .and .i64 (s[i].toNat : Int) 240 == 224) = true := by
              refine (show (bits .and .i64 (s[i].toNat : Int) (maskT 3) == headT 3) = true from ?_)
              rw [FTEST]; simp
            simp only [bne, this, Bool.not_true]
          clear FTEST
          have HTE := hide (rune_end hi (n := 3) (by omega) HFT.out)
          rcases Nat.lt_or_ge s.size (i + 3) with hsh | hsh
          · have hq : decide ((s.size : Int) - (i : Int) < 3) = true := by simp; omega
            have hE : Hid (T = (0, 0)) := by show _ = _; rw [← HT.out]; exact rune_short hi (n := 3) (by omega) HFT.out hsh
            go_wp2_with fail
            go_quiet (fail)
            go_wp2_with fail
            go_ret2
            exact ⟨by rw [hE.out]; rfl, Step.of⟩
          have hq : decide ((s.size : Int) - (i : Int) < 3) = false := by simp; omega
          obtain ⟨c0, hc0⟩ : ∃ c0, bits .andNot .i64 (s[i].toNat : Int) 240 = c0 := ⟨_, rfl⟩
          have HC0 : Hid (c0 = (s[i].toNat : Int) - 224) := by show _ = _; rw [← hc0]; exact form_rest s[i] (k := 3) (by omega) HFT.out
          go_wp2_with fail
          go_quiet (fail)
          go_wp2_with fail
          go_quiet (fail)
          go_wp2_with fail
          clear t1 hc0 hq
          go_loop [8, 9] (fun r k => ∃ (m : Nat) (x : Int), i + 1 ≤ m ∧ m ≤ i + 3 ∧ k = .int .i64 m ∧ r = .int .i64 x ∧ Hid (x = accT s i c0 (m - (i + 1))) ∧ Hid (∀ q, q < m - (i + 1) → 0 ≤ nextB s (i + 1 + q))) (fun _ k => s.size - (intOf k).toNat)
          case atStart => exact ⟨i + 1, c0, by omega, by omega, by go_num, rfl, by show _ = _; simp [accT], by intro q hq; omega⟩
          case round =>
            obtain ⟨m, x, hm1, hm2, rfl, rfl, HX, HG⟩ := hrel
            have hx : 0 ≤ x ∧ x < 67108864 := by rw [HX.out]; exact accT_3 (by rw [HC0.out]; have := form_3 HFT.out; omega) (by rw [HC0.out]; omega) (by omega) HG.out
            obtain ⟨hx0, hx1⟩ := hx
            rcases Nat.lt_or_ge m (i + 3) with hlt | hge
            · have hms : m < s.size := by omega
              have hml : (m : Int) < (i : Int) + 3 := by omega
              have HNX := hide (next_at s hms)
              by_cases hon : 128 ≤ s[m].toNat ∧ s[m].toNat ≤ 191
              · have hon1 : (bits .and .u8 (s[m].toNat : Int) 192 != 128) = false := by
                  have := (on_test s[m]).1
                  simp only [bne, this]; simp; omega
                have hon2 : bits .and .u8 (s[m].toNat : Int) 63 = ((s[m].toNat % 64 : Nat) : Int) := (on_test s[m]).2
                obtain ⟨y, hy⟩ : ∃ y : Nat, s[m].toNat % 64 = y := ⟨_, rfl⟩
                have hy1 : y < 64 := by omega
                rw [hy] at hon2
                have hor : bits .or .i64 (x * 64) (y : Int) = x * 64 + y := or6 hx0 hx1 hy1
                have HY : Hid (nextB s m = y) := by show _ = _; rw [HNX.out, if_pos hon]; omega
                clear hon hy
                go_wp2_with fail
                go_round
                case rel =>
                  refine ⟨m + 1, x * 64 + y, by omega, by omega, by go_num, rfl, ?_, ?_⟩
                  · show _ = _
                    have e : m + 1 - (i + 1) = (m - (i + 1)) + 1 := by omega
                    rw [e, accT, ← HX.out, show i + 1 + (m - (i + 1)) = m by omega, HY.out]
                  · intro q hq
                    rcases Nat.lt_or_ge q (m - (i + 1)) with h | h
                    · exact HG.out q h
                    · obtain rfl : q = m - (i + 1) := by omega
                      rw [show i + 1 + (m - (i + 1)) = m by omega, HY.out]
                      omega
                case measure => simp [intOf]; omega
              · have hon1 : (bits .and .u8 (s[m].toNat : Int) 192 != 128) = true := by
                  have := (on_test s[m]).1
                  simp only [bne, this]; simp; omega
                have hE : Hid (T = (0, 0)) := by
                  show _ = _
                  rw [← HT.out]
                  refine rune_cut hi (n := 3) (j := m - (i + 1)) (by omega) HFT.out (by omega) ?_
                  rw [show i + 1 + (m - (i + 1)) = m by omega, HNX.out, if_neg hon]
                  omega
                clear hon
                go_wp2_with fail
                go_ret2
                exact ⟨by rw [hE.out]; rfl, Step.of⟩
            · obtain rfl : m = i + 3 := by omega
              have HE : Hid (T = endR x 3) := by
                show _ = _
                rw [← HT.out, HTE.out (fun j hj => HG.out j (by omega)), HX.out, HC0.out, show i + 3 - (i + 1) = 3 - 1 by omega]
                rfl
              clear HG HX HTE
              by_cases hl : x < 2048
              · have hE : Hid (T = (0, 0)) := by show _ = _; rw [HE.out, endR, show leastT 3 = 2048 from rfl, if_pos hl]
                go_wp2_with fail
                go_ret2
                exact ⟨by rw [hE.out]; rfl, Step.of⟩
              · have hl2 : decide (x < 2048) = false := by simp; omega
                have MY := hide (umay_any x)
                cases hmy : mayR x with
                | true =>
                  have hE : Hid (T = (x, 3)) := by show _ = _; rw [HE.out, endR, show leastT 3 = 2048 from rfl, if_neg hl, hmy]; rfl
                  rw [hmy] at MY
                  clear hmy hl
                  go_wp2_with (refine (MY.out _).mono ?_; rintro e w3 ⟨rfl, hs3⟩)
                  go_ret2
                  exact ⟨by rw [hE.out]; rfl, Step.of⟩
                | false =>
                  have hE : Hid (T = (0, 0)) := by show _ = _; rw [HE.out, endR, show leastT 3 = 2048 from rfl, if_neg hl, hmy]; rfl
                  rw [hmy] at MY
                  clear hmy hl
                  go_wp2_with (refine (MY.out _).mono ?_; rintro e w3 ⟨rfl, hs3⟩)
                  go_ret2
                  exact ⟨by rw [hE.out]; rfl, Step.of⟩
      | 4, _ =>
        have FTEST := form_test s[i] (k := 4) (by omega)
        rw [HFT.out] at FTEST
        rcases Nat.lt_or_ge 4 FT with hlt | hge
        · have t1 : (bits .and .i64 (s[i].toNat : Int) 248 != 240) = true := by
            have : (bits .and .i64 (s[i].toNat : Int) 248 == 240) = false := by
              refine (show (bits .and .i64 (s[i].toNat : Int) (maskT 4) == headT 4) = false from ?_)
              rw [FTEST]; simp; omega
            simp only [bne, this, Bool.not_false]
          clear FTEST
          go_wp2_with fail
          go_quiet (fail)
          go_wp2_with fail
          go_roundw
          case rel => exact ⟨4 + 1, by omega, by omega, rfl, Step.of⟩
          case measure => simp [intOf]
        · obtain rfl : FT = 4 := by omega
          have t1 : (bits .and .i64 (s[i].toNat : Int) 248 != 240) = false := by
            have : (bits .and .i64 (s[i].toNat : Int) 248 == 240) = true := by
              refine (show (bits .and .i64 (s[i].toNat : Int) (maskT 4) == headT 4) = true from ?_)
              rw [FTEST]; simp
            simp only [bne, this, Bool.not_true]
          clear FTEST
          have HTE := hide (rune_end hi (n := 4) (by omega) HFT.out)
          rcases Nat.lt_or_ge s.size (i + 4) with hsh | hsh
          · have hq : decide ((s.size : Int) - (i : Int) < 4) = true := by simp; omega
            have hE : Hid (T = (0, 0)) := by show _ = _; rw [← HT.out]; exact rune_short hi (n := 4) (by omega) HFT.out hsh
            go_wp2_with fail
            go_quiet (fail)
            go_wp2_with fail
            go_ret2
            exact ⟨by rw [hE.out]; rfl, Step.of⟩
          have hq : decide ((s.size : Int) - (i : Int) < 4) = false := by simp; omega
          obtain ⟨c0, hc0⟩ : ∃ c0, bits .andNot .i64 (s[i].toNat : Int) 248 = c0 := ⟨_, rfl⟩
          have HC0 : Hid (c0 = (s[i].toNat : Int) - 240) := by show _ = _; rw [← hc0]; exact form_rest s[i] (k := 4) (by omega) HFT.out
          go_wp2_with fail
          go_quiet (fail)
          go_wp2_with fail
          go_quiet (fail)
          go_wp2_with fail
          clear t1 hc0 hq
          go_loop [8, 9] (fun r k => ∃ (m : Nat) (x : Int), i + 1 ≤ m ∧ m ≤ i + 4 ∧ k = .int .i64 m ∧ r = .int .i64 x ∧ Hid (x = accT s i c0 (m - (i + 1))) ∧ Hid (∀ q, q < m - (i + 1) → 0 ≤ nextB s (i + 1 + q))) (fun _ k => s.size - (intOf k).toNat)
          case atStart => exact ⟨i + 1, c0, by omega, by omega, by go_num, rfl, by show _ = _; simp [accT], by intro q hq; omega⟩
          case round =>
            obtain ⟨m, x, hm1, hm2, rfl, rfl, HX, HG⟩ := hrel
            have hx : 0 ≤ x ∧ x < 67108864 := by rw [HX.out]; exact accT_3 (by rw [HC0.out]; have := form_4 HFT.out; omega) (by rw [HC0.out]; omega) (by omega) HG.out
            obtain ⟨hx0, hx1⟩ := hx
            rcases Nat.lt_or_ge m (i + 4) with hlt | hge
            · have hms : m < s.size := by omega
              have hml : (m : Int) < (i : Int) + 4 := by omega
              have HNX := hide (next_at s hms)
              by_cases hon : 128 ≤ s[m].toNat ∧ s[m].toNat ≤ 191
              · have hon1 : (bits .and .u8 (s[m].toNat : Int) 192 != 128) = false := by
                  have := (on_test s[m]).1
                  simp only [bne, this]; simp; omega
                have hon2 : bits .and .u8 (s[m].toNat : Int) 63 = ((s[m].toNat % 64 : Nat) : Int) := (on_test s[m]).2
                obtain ⟨y, hy⟩ : ∃ y : Nat, s[m].toNat % 64 = y := ⟨_, rfl⟩
                have hy1 : y < 64 := by omega
                rw [hy] at hon2
                have hor : bits .or .i64 (x * 64) (y : Int) = x * 64 + y := or6 hx0 hx1 hy1
                have HY : Hid (nextB s m = y) := by show _ = _; rw [HNX.out, if_pos hon]; omega
                clear hon hy
                go_wp2_with fail
                go_round
                case rel =>
                  refine ⟨m + 1, x * 64 + y, by omega, by omega, by go_num, rfl, ?_, ?_⟩
                  · show _ = _
                    have e : m + 1 - (i + 1) = (m - (i + 1)) + 1 := by omega
                    rw [e, accT, ← HX.out, show i + 1 + (m - (i + 1)) = m by omega, HY.out]
                  · intro q hq
                    rcases Nat.lt_or_ge q (m - (i + 1)) with h | h
                    · exact HG.out q h
                    · obtain rfl : q = m - (i + 1) := by omega
                      rw [show i + 1 + (m - (i + 1)) = m by omega, HY.out]
                      omega
                case measure => simp [intOf]; omega
              · have hon1 : (bits .and .u8 (s[m].toNat : Int) 192 != 128) = true := by
                  have := (on_test s[m]).1
                  simp only [bne, this]; simp; omega
                have hE : Hid (T = (0, 0)) := by
                  show _ = _
                  rw [← HT.out]
                  refine rune_cut hi (n := 4) (j := m - (i + 1)) (by omega) HFT.out (by omega) ?_
                  rw [show i + 1 + (m - (i + 1)) = m by omega, HNX.out, if_neg hon]
                  omega
                clear hon
                go_wp2_with fail
                go_ret2
                exact ⟨by rw [hE.out]; rfl, Step.of⟩
            · obtain rfl : m = i + 4 := by omega
              have HE : Hid (T = endR x 4) := by
                show _ = _
                rw [← HT.out, HTE.out (fun j hj => HG.out j (by omega)), HX.out, HC0.out, show i + 4 - (i + 1) = 4 - 1 by omega]
                rfl
              clear HG HX HTE
              by_cases hl : x < 65536
              · have hE : Hid (T = (0, 0)) := by show _ = _; rw [HE.out, endR, show leastT 4 = 65536 from rfl, if_pos hl]
                go_wp2_with fail
                go_ret2
                exact ⟨by rw [hE.out]; rfl, Step.of⟩
              · have hl2 : decide (x < 65536) = false := by simp; omega
                have MY := hide (umay_any x)
                cases hmy : mayR x with
                | true =>
                  have hE : Hid (T = (x, 4)) := by show _ = _; rw [HE.out, endR, show leastT 4 = 65536 from rfl, if_neg hl, hmy]; rfl
                  rw [hmy] at MY
                  clear hmy hl
                  go_wp2_with (refine (MY.out _).mono ?_; rintro e w3 ⟨rfl, hs3⟩)
                  go_ret2
                  exact ⟨by rw [hE.out]; rfl, Step.of⟩
                | false =>
                  have hE : Hid (T = (0, 0)) := by show _ = _; rw [HE.out, endR, show leastT 4 = 65536 from rfl, if_neg hl, hmy]; rfl
                  rw [hmy] at MY
                  clear hmy hl
                  go_wp2_with (refine (MY.out _).mono ?_; rintro e w3 ⟨rfl, hs3⟩)
                  go_ret2
                  exact ⟨by rw [hE.out]; rfl, Step.of⟩
    · obtain rfl : n = 5 := by omega
      have hE : Hid (T = (0, 0)) := by show _ = _; rw [← HT.out]; exact rune_none hi (by rw [HFT.out]; omega)
      go_wp2_with fail
      go_ret2
      exact ⟨by rw [hE.out]; rfl, Step.of⟩
theorem firstN_step {f : Nat} {s : ByteArray} {i : Nat} (hi : i < s.size) (h : (runeT s i).2 ≠ 0) : firstN (f + 1) s i = firstN f s (i + (runeT s i).2.toNat) := by rw [firstN, if_pos hi, if_neg h]
theorem firstN_stop {f : Nat} {s : ByteArray} {i : Nat} (hi : i < s.size) (h : (runeT s i).2 = 0) : firstN (f + 1) s i = i := by rw [firstN, if_pos hi, if_pos h]
theorem firstN_end {f : Nat} {s : ByteArray} {i : Nat} (hi : s.size ≤ i) : firstN f s i = -1 := by
  cases f with
  | zero => rfl
  | succ f => rw [firstN, if_neg (by omega)]
set_option maxRecDepth 10000 in
set_option maxHeartbeats 1000000 in
theorem ufirst_any (s : ByteArray) (w : World) (hs : s.size ≤ 9223372036854775807) : Calls Tryz.prog 178 #[.string s] w fun e w' => e = .returned (.int .i64 (firstR s)) ∧ Step w w' := by
  obtain ⟨T, hT⟩ : ∃ T, firstR s = T := ⟨_, rfl⟩
  have HT := hide hT
  rw [hT]
  clear hT
  go_enter Tryz.func178, Tryz.ntmps178
  go_wp2_with fail
  go_loopw [3, 4, 5] (fun k _ _ wr => ∃ (i f : Nat), i ≤ s.size ∧ s.size < i + f ∧ k = .int .i64 i ∧ Hid (firstN f s i = T) ∧ Step w wr) (fun k _ _ _ => s.size - (intOf k).toNat)
  case atStart => exact ⟨0, s.size + 1, by omega, by omega, rfl, HT.out, Step.of⟩
  case round =>
    obtain ⟨i, f, hi, hf, rfl, HF, hst⟩ := hrel
    obtain ⟨wo, rfl⟩ : ∃ x : World, x = wr := ⟨_, rfl⟩
    by_cases hlt : i < s.size
    · obtain ⟨f, rfl⟩ : ∃ g, f = g + 1 := ⟨f - 1, by omega⟩
      have RU := hide (fun w' => urune_any s (i : Int) w' hs)
      have he : runeR s (i : Int) = runeT s i := by rw [runeR, if_neg (by omega)]; rfl
      rw [he] at RU
      obtain ⟨hb0, hb1, hb2⟩ := runeT_bd s i
      have HST := hide (firstN_step (f := f) hlt)
      have HSP := hide (firstN_stop (f := f) hlt)
      generalize runeT s i = rt at RU hb0 hb1 hb2 HST HSP
      obtain ⟨r, k⟩ := rt
      simp only at RU hb0 hb1 hb2 HST HSP
      clear he
      by_cases hk : k = 0
      · have HE := hide (HSP.out hk)
        subst hk
        have HTE : Hid (T = (i : Int)) := by show _ = _; rw [← HF.out, HE.out]
        clear HST HSP HE hb0 hb1 hb2
        go_wp2_with (refine (RU.out _).mono ?_; rintro e w3 ⟨rfl, hs3⟩)
        go_ret
        exact ⟨ret_int HTE.out.symm, Step.of⟩
      · obtain ⟨n, rfl⟩ : ∃ n : Nat, k = n := ⟨k.toNat, by omega⟩
        have HE := hide (HST.out hk)
        have hn : i + n ≤ s.size := by have := hb2 (by omega); simpa using this
        have hn0 : 0 < n := by omega
        have hk2 : ((n : Int) == 0) = false := by simp; omega
        have hn4 : n ≤ 4 := by omega
        clear HST HSP hb0 hb1 hb2 hk
        go_wp2_with (refine (RU.out _).mono ?_; rintro e w3 ⟨rfl, hs3⟩)
        go_roundw
        case rel => exact ⟨i + n, f, hn, by omega, by go_num, by show _ = _; rw [← HF.out, HE.out]; simp, Step.of⟩
        case measure => simp [intOf]; omega
    · have HTE : Hid (T = -1) := by show _ = _; rw [← HF.out, firstN_end (by omega)]
      go_wp2_with fail
      go_ret
      exact ⟨ret_int HTE.out.symm, Step.of⟩
theorem uvalid_any (s : ByteArray) (w : World) (hs : s.size ≤ 9223372036854775807) : Calls Tryz.prog 153 #[.string s] w fun e w' => e = .returned (.bool (validB s)) ∧ Step w w' := by
  have UF := hide (fun w' => ufirst_any s w' hs)
  have HV : Hid (validB s = decide (firstR s < 0)) := hide rfl
  rw [HV.out]
  generalize firstR s = r at UF
  clear HV
  go_enter Tryz.func153, Tryz.ntmps153
  go_wp2_with (refine (UF.out _).mono ?_; rintro e w3 ⟨rfl, hs3⟩)
  go_ret
  exact ⟨rfl, Step.of⟩
end Go.Proofs.YtnphokhehacfnaaGreatDoor

namespace Go.Proofs.YtnphokhehacfnaaGreatDoor
open Go.RowKit

theorem plain_any (v : Val) (w : World) : Calls Tryz.prog 109 #[v.val] w fun e w' => e = .returned (clean v).val ∧ Step w w' := by
  obtain ⟨k, i, b, s⟩ := v
  unfold Val.val
  by_cases h1 : k = 1
  · subst h1
    go_enter Tryz.func109, Tryz.ntmps109
    go_wp2_with fail
    refine bodyPost_ret (v := .agg #[.int .i64 1, .int .i64 i, .bool false, .string ⟨#[]⟩]) (by simp [results, Tryz.results109, go_sem]) rfl ⟨rfl, Step.of⟩
  have e1 : (k == 1) = false := by simpa using h1
  by_cases h2 : k = 2
  · subst h2
    clear e1 h1
    go_enter Tryz.func109, Tryz.ntmps109
    go_wp2_with fail
    refine bodyPost_ret (v := .agg #[.int .i64 2, .int .i64 0, .bool b, .string ⟨#[]⟩]) (by simp [results, Tryz.results109, go_sem]) rfl ⟨rfl, Step.of⟩
  have e2 : (k == 2) = false := by simpa using h2
  by_cases h3 : k = 3
  · subst h3
    clear e1 h1 e2 h2
    go_enter Tryz.func109, Tryz.ntmps109
    go_wp2_with fail
    refine bodyPost_ret (v := .agg #[.int .i64 3, .int .i64 0, .bool false, .string s]) (by simp [results, Tryz.results109, go_sem]) rfl ⟨rfl, Step.of⟩
  have e3 : (k == 3) = false := by simpa using h3
  have HC : Hid (clean ⟨k, i, b, s⟩ = Val.zero) := by show clean _ = _; simp [clean, h1, h2, h3]
  clear h1 h2 h3
  go_enter Tryz.func109, Tryz.ntmps109
  go_wp2_with fail
  refine bodyPost_ret (v := .agg #[.int .i64 0, .int .i64 0, .bool false, .string ⟨#[]⟩]) (by simp [results, Tryz.results109, go_sem]) rfl ⟨by rw [HC.out]; rfl, Step.of⟩

def nullB (v : Val) : Bool := kindV v == 0
theorem bytesLess_nil (l : List UInt8) : Op.bytesLess l [] = false := by cases l <;> rfl
theorem val_fit (v : Val) : v.cells.length = 4 ∧ ∀ u ∈ v.cells, u.oneCell' = true := by
  refine ⟨rfl, fun u hu => ?_⟩
  simp [Val.cells] at hu
  rcases hu with rfl | rfl | rfl | rfl <;> rfl
theorem vals_fit (l : List Val) : Fit 4 (l.map Val.cells) := Fit.map val_fit l
/-- Plain, with its answer's fields written out. -/
theorem plain_ag (v : Val) (w : World) : Calls Tryz.prog 109 #[.agg #[.int .i64 v.kind, .int .i64 v.i, .bool v.b, .string v.s]] w fun e w' => e = .returned (.agg #[.int .i64 (kindV v), .int .i64 (clean v).i, .bool (clean v).b, .string (clean v).s]) ∧ Step w w' :=
  (plain_any v w).mono fun e w' h => ⟨by rw [h.1, ← clean_kind]; rfl, h.2⟩
end Go.Proofs.YtnphokhehacfnaaGreatDoor

