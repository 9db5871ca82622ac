/-
  Texts put together: Xw.
-/
import Derived.Test.YtnphokhehacfnaaGreatDoorRz02
import Derived.Test.YtnphokhehacfnaaGreatDoorRz90
import Derived.Test.YtnphokhehacfnaaGreatDoorRz03
import Derived.Test.YtnphokhehacfnaaGreatDoorRz91
namespace Go.Proofs.YtnphokhehacfnaaGreatDoor
open Go.RowKit

theorem fut_ofG {w w' : World} (h : Below w.heap.size w w') : Fut w w' := ⟨h⟩
theorem futAl (w : World) (o : Obj) : Fut w (w.alloc o) := ⟨(Below.refl _ w).alloc (Nat.le_refl _) o⟩
theorem belAl (w : World) (o : Obj) : Below w.heap.size w (w.alloc o) := (Below.refl _ w).alloc (Nat.le_refl _) o
def dOp : Opp := ⟨0, [], [], [], e0, e0, 0, no25, [], 0⟩
def GStr (l : List ByteArray) (v : Value) (w : World) : Prop := ∃ b, v = .slice (some ⟨b, 0, none⟩) l.length l.length ∧ SlAt w w.heap.size 1 (some ⟨b, 0, none⟩) (strCells l)
def GVal (x : Val) (v : Value) (w : World) : Prop := ∃ b, v = .slice (some ⟨b, 0, none⟩) 1 1 ∧ SlAt w w.heap.size 4 (some ⟨b, 0, none⟩) [x.cells]
def GRows (vss : List (List Val)) (v : Value) (w : World) : Prop := ∃ (b : Nat) (rs : List RowA), v = .slice (some ⟨b, 0, none⟩) rs.length rs.length ∧ RowsIn w rs (some ⟨b, 0, none⟩) rs.length ∧ rs.map RowA.vs = vss ∧ ∀ r ∈ rs, ∀ v ∈ r.vs, FineD v
def GOp (k : Nat) (v : Value) (w : World) : Prop := ∃ o : OpA, v = .agg #[.int .i64 o.kind, .string o.txn, .slice o.Ac o.cols.length o.cc, .slice o.Ar o.rows.length o.cr, .slice o.An o.ns.length o.cn, .string o.col, .string o.name, .int .i64 o.ck, .int .i64 o.v.kind, .int .i64 o.v.i, .bool o.v.b, .string o.v.s, .slice o.Af o.fs.length o.cf, .int .i64 o.ver, .int .i64 o.time, .int .i64 o.agg] ∧ OpIn w o ∧ o.op = refOps.getD k dOp
def GOps (v : Value) (w : World) : Prop := ∃ (A : Option Addr) (os : List OpA), v = .slice A 16 16 ∧ os.length = 16 ∧ SlAt w w.heap.size 16 A (os.map OpA.cells) ∧ ∀ k, k < 16 → ∃ o, os[k]? = some o ∧ OpIn w o ∧ o.op = refOps.getD k dOp
theorem GStr.fut {l : List ByteArray} {v : Value} {w w' : World} (h : GStr l v w) (hb : Below w.heap.size w w') : GStr l v w' := by
  haveI := fut_ofG hb
  obtain ⟨b, h1, h2⟩ := h
  exact ⟨b, h1, h2.fut⟩
theorem GVal.fut {x : Val} {v : Value} {w w' : World} (h : GVal x v w) (hb : Below w.heap.size w w') : GVal x v w' := by
  haveI := fut_ofG hb
  obtain ⟨b, h1, h2⟩ := h
  exact ⟨b, h1, h2.fut⟩
theorem GRows.fut {l : List (List Val)} {v : Value} {w w' : World} (h : GRows l v w) (hb : Below w.heap.size w w') : GRows l v w' := by
  haveI := fut_ofG hb
  obtain ⟨b, rs, h1, h2, h3⟩ := h
  exact ⟨b, rs, h1, h2.fut, h3⟩
theorem GOp.fut {k : Nat} {v : Value} {w w' : World} (h : GOp k v w) (hb : Below w.heap.size w w') : GOp k v w' := by
  haveI := fut_ofG hb
  obtain ⟨o, h1, h2, h3⟩ := h
  exact ⟨o, h1, h2.fut, h3⟩
theorem GOps.fut {v : Value} {w w' : World} (h : GOps v w) (hb : Below w.heap.size w w') : GOps v w' := by
  haveI := fut_ofG hb
  obtain ⟨A, os, h1, h2, h3, h4⟩ := h
  exact ⟨A, os, h1, h2, h3.fut, fun k hk => by
    obtain ⟨o, g1, g2, g3⟩ := h4 k hk
    exact ⟨o, g1, g2.fut, g3⟩⟩
theorem gstr1 (w : World) (s : ByteArray) : GStr [s] (.slice (some ⟨w.heap.size, 0, none⟩) 1 1) (w.alloc (.cells #[.string s] 9)) := ⟨_, rfl, SlAt.strs1 rfl s⟩
theorem gstr2 (w : World) (s r : ByteArray) : GStr [s, r] (.slice (some ⟨w.heap.size, 0, none⟩) 2 2) (w.alloc (.cells #[.string s, .string r] 9)) := ⟨_, rfl, SlAt.strs2 rfl s r⟩
theorem gval1 (w : World) (x : Val) : GVal x (.slice (some ⟨w.heap.size, 0, none⟩) 1 1) (w.alloc (.cells #[.int .i64 x.kind, .int .i64 x.i, .bool x.b, .string x.s] 36)) := ⟨_, rfl, SlAt.one w 4 x.cells 36⟩
theorem grow1 {w : World} {x : Val} {b : Nat} (h : SlAt w w.heap.size 4 (some ⟨b, 0, none⟩) [x.cells]) (hx : FineD x) : GRows [[x]] (.slice (some ⟨w.heap.size, 0, none⟩) 1 1) (w.alloc (.cells #[.slice (some ⟨b, 0, none⟩) 1 1] 67)) := by
  haveI := futAl w (.cells #[.slice (some ⟨b, 0, none⟩) 1 1] 67)
  refine ⟨w.heap.size, [⟨some ⟨b, 0, none⟩, 1, [x]⟩], rfl, ⟨Nat.le_refl _, by show 1 ≤ _; decide, by show 1 ≤ _; decide, SlAt.one w 1 [.slice (some ⟨b, 0, none⟩) 1 1] 67, fun r hr => ?_⟩, rfl, fun r hr v hv => ?_⟩
  · simp only [List.mem_cons, List.not_mem_nil, or_false] at hr
    subst hr
    refine ⟨Nat.le_refl _, by show 1 ≤ _; decide, by show 1 ≤ _; decide, h.fut, fun v hv => ?_⟩
    simp only [List.mem_cons, List.not_mem_nil, or_false] at hv
    rw [hv]
    exact Nat.le_trans hx.1 (by decide)
  · simp only [List.mem_cons, List.not_mem_nil, or_false] at hr
    subst hr
    simp only [List.mem_cons, List.not_mem_nil, or_false] at hv
    rw [hv]
    exact hx
theorem row_none (w : World) : RowIn w ⟨none, 0, []⟩ := ⟨Nat.le_refl _, Nat.zero_le _, Nat.zero_le _, SlAt.nil_, fun v hv => by simp at hv⟩
theorem grow0 (w : World) : GRows [[]] (.slice (some ⟨w.heap.size, 0, none⟩) 1 1) (w.alloc (.cells #[.slice none 0 0] 67)) := by
  refine ⟨w.heap.size, [⟨none, 0, []⟩], rfl, ⟨Nat.le_refl _, by show 1 ≤ _; decide, by show 1 ≤ _; decide, SlAt.one w 1 [.slice none 0 0] 67, fun r hr => ?_⟩, rfl, fun r hr v hv => ?_⟩
  · simp only [List.mem_cons, List.not_mem_nil, or_false] at hr
    subst hr
    exact row_none _
  · simp only [List.mem_cons, List.not_mem_nil, or_false] at hr
    subst hr
    simp at hv
theorem grow65 {w : World} {b : Nat} (h : Blk w b 67 (List.replicate 65 (.slice none 0 0))) : GRows (List.replicate 65 []) (.slice (some ⟨b, 0, none⟩) 65 65) w := by
  refine ⟨b, List.replicate 65 ⟨none, 0, []⟩, rfl, ⟨Nat.le_refl _, by show 65 ≤ _; decide, by show 65 ≤ _; decide, SlAt.of_at (size := 1) (l := (List.replicate 65 (⟨none, 0, []⟩ : RowA)).map RowA.cells) h.at0 h.lt (fun x hx => ?_), fun r hr => ?_⟩, rfl, fun r hr v hv => ?_⟩
  · rw [List.map_replicate] at hx
    rw [(List.mem_replicate.1 hx).2]
    rfl
  · rw [(List.mem_replicate.1 hr).2]
    exact row_none _
  · rw [(List.mem_replicate.1 hr).2] at hv
    simp at hv
theorem fine_kv1 : FineD (kv25 1) := ⟨by decide, by decide, by decide⟩
theorem fine_tx : FineD tx25 := ⟨by decide, by decide, by decide⟩
theorem fine_no : FineD no25 := ⟨by decide, by decide, by decide⟩
theorem pr_bad {w : World} {b : Nat} (h : Blk w b 77 [.int .i64 1, .string ⟨#[97]⟩, .int .i64 0, .int .i64 3, .int .i64 0, .bool false, .string ⟨#[120]⟩, .int .i64 0, .int .i64 0]) : PrIn w [badN] (some ⟨b, 0, none⟩) 1 :=
  ⟨Nat.le_refl _, by decide, (by decide : 1 ≤ 1599289640400), SlAt.of_blk25 h rfl (fun x hx => by simp at hx; subst hx; rfl), fun n hn => by simp at hn; subst hn; exact ⟨(by decide : (1 : Nat) ≤ 9223372036854775807), (by decide : (1 : Nat) ≤ 9223372036854775807)⟩⟩
theorem pr_non {w : World} {b : Nat} (h : Blk w b 77 [.int .i64 3, .string ⟨#[]⟩, .int .i64 0, .int .i64 0, .int .i64 0, .bool false, .string ⟨#[]⟩, .int .i64 0, .int .i64 0]) : PrIn w [nonN] (some ⟨b, 0, none⟩) 1 :=
  ⟨Nat.le_refl _, by decide, (by decide : 1 ≤ 1599289640400), SlAt.of_blk25 h rfl (fun x hx => by simp at hx; subst hx; rfl), fun n hn => by simp at hn; subst hn; exact ⟨(by decide : (0 : Nat) ≤ 9223372036854775807), (by decide : (0 : Nat) ≤ 9223372036854775807)⟩⟩
/-- An operation without rows. -/
theorem opin0 (w : World) (kd : Int) (col name : ByteArray) (ck : Int) (v : Val) (hn : name.size ≤ 9223372036854775807) (hv : FineD v) (ag : Int) : OpIn w ⟨kd, ⟨#[]⟩, [], none, 0, [], none, 0, [], none, 0, col, name, ck, v, [], none, 0, 0, 0, ag⟩ :=
  ⟨SlAt.nil_, Nat.zero_le _, Nat.le_refl _, RowsIn.none_ _, fun r h => by simp at h, PrIn.none_ _, FsIn.none_ _, Nat.zero_le _, hv, hn⟩
theorem opinP {w : World} {ns : List Nod} {A : Option Addr} {cn : Nat} (kd : Int) (h : PrIn w ns A cn) (ag : Int) : OpIn w ⟨kd, ⟨#[]⟩, [], none, 0, [], none, 0, ns, A, cn, ⟨#[]⟩, ⟨#[]⟩, 0, no25, [], none, 0, 0, 0, ag⟩ :=
  ⟨SlAt.nil_, Nat.zero_le _, Nat.le_refl _, RowsIn.none_ _, fun r h => by simp at h, h, FsIn.none_ _, Nat.zero_le _, fine_no, by show 0 ≤ _; decide⟩
theorem opinR {w : World} {l : List ByteArray} {b : Nat} (h : SlAt w w.heap.size 1 (some ⟨b, 0, none⟩) (strCells l)) (hl : l.length ≤ 8796093022207) {rs : List RowA} {b2 : Nat} (hr : RowsIn w rs (some ⟨b2, 0, none⟩) rs.length) (hf : ∀ r ∈ rs, ∀ v ∈ r.vs, FineD v) : OpIn w ⟨0, ⟨#[]⟩, l, some ⟨b, 0, none⟩, l.length, rs, some ⟨b2, 0, none⟩, rs.length, [], none, 0, ⟨#[]⟩, ⟨#[]⟩, 0, no25, [], none, 0, 0, 0, 0⟩ :=
  ⟨h, hl, Nat.le_refl _, hr, hf, PrIn.none_ _, FsIn.none_ _, Nat.zero_le _, fine_no, by show 0 ≤ _; decide⟩
theorem opinC {w : World} {l : List ByteArray} {b : Nat} (h : SlAt w w.heap.size 1 (some ⟨b, 0, none⟩) (strCells l)) (hl : l.length ≤ 8796093022207) : OpIn w ⟨0, ⟨#[]⟩, l, some ⟨b, 0, none⟩, l.length, [], none, 0, [], none, 0, ⟨#[]⟩, ⟨#[]⟩, 0, no25, [], none, 0, 0, 0, 0⟩ :=
  ⟨h, hl, Nat.le_refl _, RowsIn.none_ _, fun r h => by simp at h, PrIn.none_ _, FsIn.none_ _, Nat.zero_le _, fine_no, by show 0 ≤ _; decide⟩
theorem gops_of {w : World} {O : Obj} {b : Nat} {os : List OpA} (hl : os.length = 16) (hsl : SlAt (w.alloc O) (w.alloc O).heap.size 16 (some ⟨b, 0, none⟩) (os.map OpA.cells)) (h : ∀ k, k < 16 → ∃ o, os[k]? = some o ∧ OpIn w o ∧ o.op = refOps.getD k dOp) : GOps (.slice (some ⟨b, 0, none⟩) 16 16) (w.alloc O) :=
  ⟨_, os, rfl, hl, hsl, fun k hk => by
    obtain ⟨o, g1, g2, g3⟩ := h k hk
    haveI := futAl w O
    exact ⟨o, g1, g2.fut, g3⟩⟩
theorem At.lOp {w : World} {b off : Nat} {x0 x1 x2 x3 x4 x5 x6 x7 x8 x9 x10 x11 x12 x13 x14 x15 : Value} (h : At w b off [x0, x1, x2, x3, x4, x5, x6, x7, x8, x9, x10, x11, x12, x13, x14, x15]) :
    w.cell? ⟨b, off, none⟩ = some x0 ∧ w.cell? ⟨b, off + 1, none⟩ = some x1 ∧ w.cell? ⟨b, off + 2, none⟩ = some x2 ∧ w.cell? ⟨b, off + 3, none⟩ = some x3 ∧ w.cell? ⟨b, off + 4, none⟩ = some x4 ∧ w.cell? ⟨b, off + 5, none⟩ = some x5 ∧ w.cell? ⟨b, off + 6, none⟩ = some x6 ∧ w.cell? ⟨b, off + 7, none⟩ = some x7 ∧ w.cell? ⟨b, off + 8, none⟩ = some x8 ∧ w.cell? ⟨b, off + 9, none⟩ = some x9 ∧ w.cell? ⟨b, off + 10, none⟩ = some x10 ∧ w.cell? ⟨b, off + 11, none⟩ = some x11 ∧ w.cell? ⟨b, off + 12, none⟩ = some x12 ∧ w.cell? ⟨b, off + 13, none⟩ = some x13 ∧ w.cell? ⟨b, off + 14, none⟩ = some x14 ∧ w.cell? ⟨b, off + 15, none⟩ = some x15 := by
  refine ⟨?_, ?_, ?_, ?_, ?_, ?_, ?_, ?_, ?_, ?_, ?_, ?_, ?_, ?_, ?_, ?_⟩
  · simpa using h 0 x0 rfl
  · simpa using h 1 x1 rfl
  · simpa using h 2 x2 rfl
  · simpa using h 3 x3 rfl
  · simpa using h 4 x4 rfl
  · simpa using h 5 x5 rfl
  · simpa using h 6 x6 rfl
  · simpa using h 7 x7 rfl
  · simpa using h 8 x8 rfl
  · simpa using h 9 x9 rfl
  · simpa using h 10 x10 rfl
  · simpa using h 11 x11 rfl
  · simpa using h 12 x12 rfl
  · simpa using h 13 x13 rfl
  · simpa using h 14 x14 rfl
  · simpa using h 15 x15 rfl
theorem len_cons {α : Type} {l : List α} {n : Nat} (h : l.length = n + 1) : ∃ x r, l = x :: r ∧ r.length = n := by
  cases l with
  | nil => simp at h
  | cons x r => exact ⟨x, r, rfl, by simpa using h⟩
/-- What each operation's value is to be: nb, mb: the blocks of the two nodes. -/
def G8 (nb mb : Nat) (i : Nat) (v : Value) (w : World) : Prop :=
  match i with
  | 0 => GStr [⟨#[122]⟩] v w
  | 1 => v = .agg #[.int .i64 1, .int .i64 1, .bool false, .string ⟨#[]⟩]
  | 2 => GVal (kv25 1) v w
  | 3 => ∃ u, v = .agg #[u] ∧ GVal (kv25 1) u w
  | 4 => GRows [[kv25 1]] v w
  | 5 => GOp 0 v w
  | 6 => GStr [⟨#[97]⟩] v w
  | 7 => v = .agg #[.int .i64 3, .int .i64 0, .bool false, .string ⟨#[120]⟩]
  | 8 => GVal tx25 v w
  | 9 => ∃ u, v = .agg #[u] ∧ GVal tx25 u w
  | 10 => GRows [[tx25]] v w
  | 11 => GOp 1 v w
  | 12 => GStr [⟨#[97]⟩, ⟨#[97]⟩] v w
  | 13 => GOp 2 v w
  | 14 => GStr [⟨#[97]⟩] v w
  | 15 => v = .agg #[.slice none 0 0]
  | 16 => GRows [[]] v w
  | 17 => GOp 3 v w
  | 18 => GStr [⟨#[97]⟩] v w
  | 19 => GRows (List.replicate 65 []) v w
  | 20 => GOp 4 v w
  | 21 => v = .agg #[.slice (some ⟨nb, 0, none⟩) 1 1]
  | 22 => GOp 5 v w
  | 23 => v = .agg #[.slice (some ⟨mb, 0, none⟩) 1 1]
  | 24 => GOp 6 v w
  | 25 => v = .agg #[.int .i64 1, .int .i64 1, .bool false, .string ⟨#[]⟩]
  | 26 => GOp 7 v w
  | 27 => v = .agg #[.int .i64 1, .int .i64 1, .bool false, .string ⟨#[]⟩]
  | 28 => GOp 8 v w
  | 29 => v = .agg #[.int .i64 9, .int .i64 0, .bool false, .string ⟨#[]⟩]
  | 30 => GOp 9 v w
  | 31 => GOp 10 v w
  | 32 => GOp 11 v w
  | 33 => GOp 12 v w
  | 34 => GOp 13 v w
  | 35 => GOp 14 v w
  | 36 => GOp 15 v w
  | 37 => GOps v w
  | 38 => GOps v w
  | _ + 39 => False
theorem G8.fut (nb mb : Nat) (i : Nat) (v : Value) (w w' : World) (h : G8 nb mb i v w) (hb : Below w.heap.size w w') : G8 nb mb i v w' := by
  unfold G8 at h ⊢
  split <;> simp only at h <;> first | exact h | exact GStr.fut h hb | exact GVal.fut h hb | exact GRows.fut h hb | exact GOp.fut h hb | exact GOps.fut h hb | (obtain ⟨u, h1, h2⟩ := h; exact ⟨u, h1, h2.fut hb⟩)
end Go.Proofs.YtnphokhehacfnaaGreatDoor

