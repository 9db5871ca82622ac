/-
  Plain: what statistics and parts tell of a predicate's nodes.
-/
import Derived.Test.YtafgfehjdbomfaaDoorSd
import Derived.Test.YtafgfehjdbomfaaDoorV
import Derived.Test.YtafgfehjdbomfaaDoorFd
namespace Go.Proofs.YtafgfehjdbomfaaDoor
open Go.RowKit

theorem bitS_lt (b : Bool) {n : Nat} (h : n < 8) : bitS b n < 8 := by cases b <;> simp [bitS, h]
theorem toldS_lt (n : Nod) (st : Sta) (rows : Int) : toldS n st rows < 8 := by
  unfold toldS
  repeat' split
  all_goals first | exact orS_lt (orS_lt (bitS_lt _ (by decide)) (bitS_lt _ (by decide))) (bitS_lt _ (by decide)) | exact orS_lt (bitS_lt _ (by decide)) (bitS_lt _ (by decide)) | exact bitS_lt _ (by decide)

/-- A node's set, of those ahead of it. -/
def stepW (leaf : Nod → Nat) (acc : List Nat) (n : Nod) : Nat :=
  if n.kind = 0 then 2 else if n.kind = 1 ∨ n.kind = 2 then leaf n
  else if n.kind = 3 then joinS 3 (acc.getD n.l.toNat 0) (acc.getD n.l.toNat 0) else joinS n.kind (acc.getD n.l.toNat 0) (acc.getD n.r.toNat 0)
def evalW (leaf : Nod → Nat) (ns : List Nod) : List Nat := ns.foldl (fun acc n => acc ++ [stepW leaf acc n]) []
def lastW (l : List Nat) : Nat := l.getLastD 2
def walkB (leaf : Nod → Nat) (ns : List Nod) : Bool := (lastW (evalW leaf ns)).testBit 1
theorem evalW_snoc (leaf : Nod → Nat) (ns : List Nod) (n : Nod) : evalW leaf (ns ++ [n]) = evalW leaf ns ++ [stepW leaf (evalW leaf ns) n] := by simp [evalW]
theorem evalW_len (leaf : Nod → Nat) (ns : List Nod) : (evalW leaf ns).length = ns.length := by
  have : ∀ (l : List Nod) (acc : List Nat), (l.foldl (fun acc n => acc ++ [stepW leaf acc n]) acc).length = acc.length + l.length := by
    intro l
    induction l with
    | nil => simp
    | cons x r ih => intro acc; simp [ih]; omega
  simpa [evalW] using this ns []
theorem evalW_take (leaf : Nod → Nat) (ns : List Nod) (k : Nat) (n : Nod) (h : ns[k]? = some n) : evalW leaf (ns.take (k + 1)) = evalW leaf (ns.take k) ++ [stepW leaf (evalW leaf (ns.take k)) n] := by
  rw [List.take_add_one, h]
  exact evalW_snoc _ _ _
theorem stepW_lt {leaf : Nod → Nat} (hl : ∀ n, leaf n < 8) (acc : List Nat) (n : Nod) : stepW leaf acc n < 8 := by
  unfold stepW
  repeat' split
  all_goals first | exact hl _ | exact joinS_lt | decide
theorem evalW_lt {leaf : Nod → Nat} (hl : ∀ n, leaf n < 8) (ns : List Nod) : ∀ x ∈ evalW leaf ns, x < 8 := by
  have : ∀ (l : List Nod) (acc : List Nat), (∀ x ∈ acc, x < 8) → ∀ x ∈ l.foldl (fun acc n => acc ++ [stepW leaf acc n]) acc, x < 8 := by
    intro l
    induction l with
    | nil => intro acc h; simpa using h
    | cons x r ih =>
      intro acc h
      rw [List.foldl_cons]
      refine ih _ fun y hy => ?_
      rcases List.mem_append.1 hy with hy | hy
      · exact h y hy
      · simp at hy; subst hy; exact stepW_lt hl _ _
  exact this ns [] (by simp)
theorem lastW_lt {leaf : Nod → Nat} (hl : ∀ n, leaf n < 8) (ns : List Nod) : lastW (evalW leaf ns) < 8 := by
  unfold lastW
  rw [List.getLastD_eq_getLast?]
  cases h : (evalW leaf ns).getLast? with
  | none => simp
  | some x => exact evalW_lt hl ns x (List.mem_of_getLast? h)
theorem lastW_snoc (l : List Nat) (x : Nat) : lastW (l ++ [x]) = x := by simp [lastW]
theorem evalW_get {leaf : Nod → Nat} (hf : ∀ n, leaf n < 8) {ns : List Nod} {k l : Nat} (hk : k ≤ ns.length) (hl : l < k) : ∃ x, (evalW leaf (ns.take k))[l]? = some x ∧ (evalW leaf (ns.take k)).getD l 0 = x ∧ x < 8 := by
  have hlen : (evalW leaf (ns.take k)).length = k := by rw [evalW_len]; simp; omega
  have hx : (evalW leaf (ns.take k))[l]? = some ((evalW leaf (ns.take k))[l]'(by omega)) := List.getElem?_eq_getElem (by omega)
  exact ⟨_, hx, by rw [List.getD_eq_getElem?_getD, hx]; rfl, evalW_lt hf (ns.take k) _ (List.mem_of_getElem? hx)⟩
theorem stepW_true {leaf : Nod → Nat} {acc : List Nat} {n : Nod} (h : n.kind = 0) : stepW leaf acc n = 2 := by simp [stepW, h]
theorem stepW_leaf {leaf : Nod → Nat} {acc : List Nat} {n : Nod} (h : n.kind = 1 ∨ n.kind = 2) : stepW leaf acc n = leaf n := by rw [stepW, if_neg (by omega), if_pos h]
theorem stepW_not {leaf : Nod → Nat} {acc : List Nat} {n : Nod} {l : Nat} {x : Nat} (h : n.kind = 3) (hl : n.l = l) (hx : acc.getD l 0 = x) : stepW leaf acc n = joinS 3 x x := by
  rw [stepW, if_neg (by omega), if_neg (by omega), if_pos h, hl, Int.toNat_natCast, hx]
theorem stepW_two {leaf : Nod → Nat} {acc : List Nat} {n : Nod} {l r : Nat} {x y : Nat} (h : n.kind = 4 ∨ n.kind = 5) (hl : n.l = l) (hr : n.r = r) (hx : acc.getD l 0 = x) (hy : acc.getD r 0 = y) : stepW leaf acc n = joinS n.kind x y := by
  rw [stepW, if_neg (by omega), if_neg (by omega), if_neg (by omega), hl, hr, Int.toNat_natCast, Int.toNat_natCast, hx, hy]

/-- The Id of the column that a node names. -/
def nodId (s : Sch) (n : Nod) : Int := (s.cols.getD (s.cols.findIdx (named n.col)) ⟨0, .empty, 0⟩).id
def statOf (id : Int) (t : Sta) : Bool := t.col == id
def Sta.zero : Sta := ⟨0, 0, Val.zero, Val.zero⟩
/-- A node's set by its column's statistics. -/
def leafStat (s : Sch) (sts : List Sta) (rows : Int) (n : Nod) : Nat :=
  if 0 ≤ idx (statOf (nodId s n)) sts then toldS n (sts.getD (sts.findIdx (statOf (nodId s n))) Sta.zero) rows else if n.kind = 2 then 2 else 4
theorem leafStat_lt (s : Sch) (sts : List Sta) (rows : Int) (n : Nod) : leafStat s sts rows n < 8 := by
  unfold leafStat
  repeat' split
  all_goals first | exact toldS_lt _ _ _ | decide
def outOf (rows : Int) (t : Sta) : Bool := decide (t.nulls < 0) || decide (rows < t.nulls)
/-- Stats' answer. -/
def statsR (ns : List Nod) (s : Sch) (sts : List Sta) (rows : Int) : Bool × Int :=
  if checkE ns s ≠ 0 then (false, checkE ns s)
  else if rows < 0 ∨ 4096 < rows ∨ sts.any (outOf rows) = true then (false, 1800)
  else if rows = 0 then (false, 0) else (walkB (leafStat s sts rows) ns, 0)

def plainOf (id : Int) (f : Fld) : Bool := f.source == id && f.trans == 0
/-- A node's set by a part. -/
def leafPart (s : Sch) (fs : List Fld) (part : List Val) (n : Nod) : Nat :=
  if 0 ≤ idx (plainOf (nodId s n)) fs then ofT [(leafT n (part.getD (fs.findIdx (plainOf (nodId s n))) Val.zero)).toNat] else if n.kind = 2 then 3 else 7
theorem leafPart_lt (s : Sch) (fs : List Fld) (part : List Val) (n : Nod) : leafPart s fs part n < 8 := by
  unfold leafPart
  repeat' split
  all_goals first | exact ofT_one (tr_nat (leafT_tr _ _)).2 | decide
/-- Parts' answer. -/
def partsR (ns : List Nod) (s : Sch) (id : Int) (fs : List Fld) (part : List Val) : Bool × Int :=
  if checkE ns s ≠ 0 then (false, checkE ns s)
  else if specB id fs s = true ∧ part.length = fs.length then (walkB (leafPart s fs part) ns, 0) else (false, 1800)
theorem stas_fit1 (t : Sta) : t.cells.length = 10 ∧ ∀ u ∈ t.cells, u.oneCell' = true := by
  refine ⟨rfl, fun u hu => ?_⟩
  simp [Sta.cells] at hu
  rcases hu with rfl | rfl | rfl | rfl | rfl | rfl | rfl | rfl | rfl | rfl <;> rfl
theorem stas_fit (l : List Sta) : Fit 10 (l.map Sta.cells) := Fit.map stas_fit1 l
theorem leafPart_hit {s : Sch} {fs : List Fld} {part : List Val} {n : Nod} {j : Nat} {v : Val} (hi : idx (plainOf (nodId s n)) fs = (j : Int)) (hv : part[j]? = some v) : leafPart s fs part n = ofT [(leafT n v).toNat] := by
  obtain ⟨e, h⟩ := idx_yes (p := plainOf (nodId s n)) (l := fs) (by omega)
  have e2 : fs.findIdx (plainOf (nodId s n)) = j := by omega
  rw [leafPart, if_pos (by omega), e2, List.getD_eq_getElem?_getD, hv]
  rfl
theorem leafPart_miss {s : Sch} {fs : List Fld} {part : List Val} {n : Nod} (hi : idx (plainOf (nodId s n)) fs = -1) : leafPart s fs part n = if n.kind = 2 then 3 else 7 := by
  rw [leafPart, if_neg (by omega)]
end Go.Proofs.YtafgfehjdbomfaaDoor
