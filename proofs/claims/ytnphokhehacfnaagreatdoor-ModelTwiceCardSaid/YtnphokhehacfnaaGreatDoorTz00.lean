/-
  Texts put together: what the packs struck of Base, Open, Si, OpSch, Ya.
-/
import Derived.WalkKit
import Derived.ProofKit
import Derived.OpenShut
import Derived.LaidMore
import Derived.Lay
import Derived.Below
import Derived.ChangeSame
import Derived.SevenTiedAt
import Derived.Stop.Joined
import Derived.Deep.DeepHandedRow
import Derived.WalkSpells
import Derived.WalkLawsBesides
import Derived.BigQuiet
import Derived.Deep.QuietTactic
import Derived.Outline
import Derived.Lib.Hide
import Derived.Maps.AppendAt
import Derived.Deep.RegionLaw
import Derived.StillTailTactics
import Derived.Deep.RegionHeld3
import Derived.Deep.Slices
import Derived.Shelf.Strings.SlTrimAscii
import Derived.Deep.Cut
import Derived.Deep.CutBlock
import Derived.Laws.BitsAllLaws
import Derived.BigRegion
import Derived.Deep.DeepCutAuto
import Derived.Tactics2
import Derived.Defers
import Derived.Recover
import Derived.Laws.Externs
import Derived.WalkSmall
import Derived.Test.YtnphokhehacfnaaGreatDoorPz00
import Derived.Test.YtnphokhehacfnaaGreatDoorPz01
import Derived.Test.YtnphokhehacfnaaGreatDoorPz02
import Derived.Test.YtnphokhehacfnaaGreatDoorPz03
import Derived.Test.YtnphokhehacfnaaGreatDoorPz04
import Derived.Test.YtnphokhehacfnaaGreatDoorPz05
import Derived.Test.YtnphokhehacfnaaGreatDoorPz06
import Derived.Test.YtnphokhehacfnaaGreatDoorPz07
import Derived.Test.YtnphokhehacfnaaGreatDoorPz08
import Derived.Test.YtnphokhehacfnaaGreatDoorPz09
import Derived.Test.YtnphokhehacfnaaGreatDoorPz10
import Derived.Test.YtnphokhehacfnaaGreatDoorPz11
import Derived.Test.YtnphokhehacfnaaGreatDoorPz12
import Derived.Test.YtnphokhehacfnaaGreatDoorPz13
import Derived.Test.YtnphokhehacfnaaGreatDoorPz14
import Derived.Test.YtnphokhehacfnaaGreatDoorPz15
import Derived.Test.YtnphokhehacfnaaGreatDoorPz16
import Derived.Test.YtnphokhehacfnaaGreatDoorPz17
import Derived.Test.YtnphokhehacfnaaGreatDoorPz18
import Derived.Test.YtnphokhehacfnaaGreatDoorPz19
import Derived.Test.YtnphokhehacfnaaGreatDoorPz20
import Derived.Test.YtnphokhehacfnaaGreatDoorPz21
import Derived.Test.YtnphokhehacfnaaGreatDoorPz22
namespace Go.Proofs.YtnphokhehacfnaaGreatDoor
open Go.RowKit

section
variable {P : Program} {w : World}
end

end Go.Proofs.YtnphokhehacfnaaGreatDoor
namespace Go.Proofs.YtnphokhehacfnaaGreatDoor
open Go.RowKit

theorem Blks.after {w w' : World} (hb : Below w.heap.size w w') : ∀ {l : List (Nat × TypeId × List Value)}, Blks w l → Blks w' l
  | [], _ => trivial
  | _ :: _, h => ⟨h.1.below hb h.1.lt, Blks.after hb h.2⟩
theorem Turned.of_grown {w w' : World} {p : Nat} {v : Value} (h : w.grownBy w' v.ownBlock) : Turned w w' p v := ⟨h.os, h.tape, h.output, h.size, fun k hk _ hn => h.block k hk hn⟩
theorem Turned.of_alloc {w w' : World} {p : Nat} {v : Value} {o : Obj} (h : Turned (w.alloc o) w' p v) : Turned w w' p v :=
  ⟨h.os, h.tape, h.output, by have := h.size; simp at this; omega, fun k hk hp hn => (h.block k (by simp; omega) hp hn).trans (Below.heap_alloc w o k hk)⟩
theorem Turned.of_drew {w w' : World} {p : Nat} {v : Value} (h : Turned w.drew w' p v) : Turned w w' p v := ⟨h.os, h.tape, h.output, h.size, h.block⟩
section
variable {P : Program} {w : World}
theorem grown_setRow (w : World) (g : Nat) (cs : Array Value) : w.grownBy (w.setRow g cs) (some g) :=
  ⟨rfl, rfl, rfl, by simp, fun k _ hk => setRow_other w g k cs (fun e => hk (by rw [e]))⟩

theorem run_append_row {t ty e : TypeId} {size bytes : Nat} (hei : EI P t e size bytes) {g n cap : Nat} {cur : List Value} (hg : Blk w g e cur)
    {A : Option Addr} {c : Nat} {ys : List (List Value)} (hr : SlAt w w.heap.size size A ys) (hys : Fit size ys) (hroom : n + ys.length ≤ cap) (hcur : cur.length = cap * size) :
    ∃ w', (Builtin.append_ #[t, t] ty #[.slice (some ⟨g, 0, none⟩) n cap, .slice A ys.length c]).run P w = .ok (.slice (some ⟨g, 0, none⟩) (n + ys.length) cap) w' ∧
      Blk w' g e (cur.take (n * size) ++ ys.flatten ++ cur.drop (n * size + ys.flatten.length)) ∧ w.grownBy w' (some g) := by
  obtain ⟨ht, ⟨i, z, hi, hz, hsize, hby, hzs⟩, hsz, hbz⟩ := hei
  subst hsize
  have hfl : ys.flatten.length = ys.length * i.size := flatten_length hys.len
  have hfit : n * i.size + ys.flatten.length ≤ cur.toArray.size := by
    rw [hfl, List.size_toArray, hcur, ← Nat.add_mul]
    exact Nat.mul_le_mul_right _ hroom
  have key : ∀ ad : Addr, (∀ j u, ys.flatten[j]? = some u → w.cell? (ad.add j) = some u) → ∃ w', (Builtin.append_ #[t, t] ty #[.slice (some ⟨g, 0, none⟩) n cap, .slice (some ad) ys.length c]).run P w = .ok (.slice (some ⟨g, 0, none⟩) (n + ys.length) cap) w' ∧
      Blk w' g e (cur.take (n * i.size) ++ ys.flatten ++ cur.drop (n * i.size + ys.flatten.length)) ∧ w.grownBy w' (some g) := by
    intro ad hc
    have hr := run_append_room (P := P) w t ty e i ht hi g n cap cur.toArray hg ad ys.length c ys.flatten hfl hc hys.one hroom hfit
    exact ⟨_, hr, setRow_heap w g cur.toArray _ e _ hg, grown_setRow w g _⟩
  by_cases hy : ys = []
  · subst hy
    cases A with
    | none =>
      refine ⟨w, ?_, by simpa using hg, World.grownBy.refl w _⟩
      simp only [List.length_nil] at hroom
      have hroom' : n ≤ cap := by omega
      simp [Builtin.append_, run_underlying ht, sizeOf, typeInfo, hi, Builtin.lenOf, Builtin.firstCells, hroom', storeCells]
    | some ad => exact key ad fun j u hu => by simp at hu
  · obtain ⟨b, off, rfl, _, hc⟩ := hr (List.length_pos_iff.2 hy)
    have hat := At.flatten hys.len hc
    exact key _ fun j u hu => by rw [Addr.add_lit]; exact hat j u hu

theorem step_append_row {ops : Array Oper} {o : Oper} {a : Act} {K : Act → World → Prop} {Q : Exit → Act → World → Prop} {E : Prop} (hgd : o.guard = none) (s x : Operand) (t : TypeId)
    (ho : o.op = .call { callee := .builtin .append, args := #[s, x], argTypes := #[t, t] }) {e : TypeId} {size bytes : Nat} (hei : EI P t e size bytes)
    {g n cap : Nat} {cur : List Value} (hs : a.eval s = .slice (some ⟨g, 0, none⟩) n cap) (hg : Blk w g e cur)
    {A : Option Addr} {c : Nat} {ys : List (List Value)} {m : Nat} (hx : a.eval x = .slice A m c) (hm : m = ys.length) (hr : SlAt w w.heap.size size A ys) (hys : Fit size ys)
    (hroom : n + ys.length ≤ cap) (hcur : cur.length = cap * size)
    (h : ∀ w', Blk w' g e (cur.take (n * size) ++ ys.flatten ++ cur.drop (n * size + ys.flatten.length)) → w.grownBy w' (some g) → K (a.put o.dst (.slice (some ⟨g, 0, none⟩) (n + m) cap)) w') :
    if Region.wanted o (yielded ops a.tmps) = true then Oper.wp P o a w K Q else E := by
  subst hm
  have hw : Region.wanted o (yielded ops a.tmps) = true := by simp [Region.wanted, hgd]
  rw [if_pos hw]
  obtain ⟨w', hrun, h2, h3⟩ := run_append_row (P := P) (ty := o.type) hei (n := n) hg hr (c := c) hys hroom hcur
  unfold Oper.wp execOp
  simp only [ho, resolve, invoke, builtin, Sem.run_bind, Sem.run_pure, Result.andThen_ok, List.map_toArray, List.map_cons, List.map_nil, hs, hx, hrun]
  exact h w' h2 h3

theorem run_clear_row {t e ty : TypeId} {z : Value} {size : Nat} (ht : P.underlying t = some (.slice e)) (hv : ∀ w, (zeroValue e).run P w = .ok z w) (hz : z.cells.size = size) (h1 : ∀ u ∈ z.cells.toList, u.oneCell' = true)
    {g o c : Nat} {cur : List Value} (hg : Blk w g e cur) (hfit : o + size ≤ cur.length) :
    ∃ w', (Builtin.clear_ #[t] ty #[.slice (some ⟨g, o, none⟩) 1 c]).run P w = .ok (.tuple #[]) w' ∧ Blk w' g e (cur.take o ++ z.cells.toList ++ cur.drop (o + size)) ∧ w.grownBy w' (some g) := by
  subst hz
  have hzc : (Builtin.zeroCells z.cells 1).toList = z.cells.toList := by
    simp only [Builtin.zeroCells]
    apply List.ext_getElem
    · simp
    · intro i h1 h2
      have : i < z.cells.size := by simpa using h2
      simp [Nat.mod_eq_of_lt this, getElem!_pos z.cells i this]
  have hst := run_storeCells_at P g o e z.cells.toList 0 cur.toArray w hg (by simpa using hfit) h1
  simp only [Nat.add_zero] at hst
  refine ⟨_, ?_, setRow_heap w g cur.toArray _ e _ hg, grown_setRow w g _⟩
  · simp only [Array.length_toList] at hst
    simp [Builtin.clear_, run_underlying ht, hv, hzc, hst]
end
end Go.Proofs.YtnphokhehacfnaaGreatDoor
namespace Go.Proofs.YtnphokhehacfnaaGreatDoor
open Go.RowKit

theorem At.of_take {w : World} {b off n : Nat} {cs xs : List Value} (h : At w b off cs) (ht : cs.take n = xs) : At w b off xs := fun j u hu => by
  rw [← ht, List.getElem?_take] at hu
  split at hu
  · exact h j u hu
  · cases hu
theorem flatten_take {size : Nat} : ∀ {l : List (List Value)}, (∀ x ∈ l, x.length = size) → ∀ k, l.flatten.take (k * size) = (l.take k).flatten
  | [], _, _ => by simp
  | x :: r, hs, 0 => by simp
  | x :: r, hs, k + 1 => by
    have hx := hs x (by simp)
    rw [List.flatten_cons, List.take_succ_cons, List.flatten_cons, List.take_append, hx, show (k + 1) * size - size = k * size by rw [Nat.add_mul]; omega, flatten_take (fun y hy => hs y (by simp [hy])),
      List.take_of_length_le (by rw [hx, Nat.add_mul]; omega)]

theorem take_app3 {α : Type} (a b c : List α) (n : Nat) (h : n = a.length + b.length) : (a ++ b ++ c).take n = a ++ b := by
  subst h
  rw [← List.length_append, List.take_left]
end Go.Proofs.YtnphokhehacfnaaGreatDoor
namespace Go.Proofs.YtnphokhehacfnaaGreatDoor
open Go.RowKit

end Go.Proofs.YtnphokhehacfnaaGreatDoor

namespace Go.Proofs.YtnphokhehacfnaaGreatDoor
open Go.ChangeShapes Go.WideShapes Go.ChangeAt Go.RowKit

variable {P : Program} {α β : Type}
theorem opens_bool {t : TypeId} (ht : P.underlying t = some .bool) : Opens P t (fun b : Bool => [.bool b]) (fun _ _ => True) := fun H enc w fuel cs x hx _ => by
  obtain ⟨b, rfl, _⟩ := DataW.trod_bool ht hx
  exact ⟨b, rfl, trivial⟩
theorem opens_string {t : TypeId} (ht : P.underlying t = some .string) : Opens P t (fun s : ByteArray => [.string s]) (fun _ s => s.size ≤ maxLen ∧ s.size ≤ reachBytes) := fun H enc w fuel cs x hx hl => by
  obtain ⟨s, rfl, rfl, hs⟩ := DataW.trod_string ht hx
  exact ⟨s, rfl, hs, hl _ (by simp [DataW.weights])⟩

theorem opensF_nil {off tot : Nat} (h : off = tot) : OpensF P [] off tot (fun _ : Unit => []) (fun _ _ => True) := fun H enc w n cs xs hc _ _ _ => ⟨(), by simp [hc, h], trivial⟩
theorem opensF_cons {f : Field} {fs : List Field} {off k tot : Nat} (ho : f.offset = off) (hk : P.cellsOf f.type = k) {c : α → List Value} {Q : World → α → Prop} (h : Opens P f.type c Q) {c' : β → List Value} {Q' : World → β → Prop} (hr : OpensF P fs (off + k) tot c' Q') :
    OpensF P (f :: fs) off tot (fun p : α × β => c p.1 ++ c' p.2) (fun w p => Q w p.1 ∧ Q' w p.2) := fun H enc w n cs xs hc hx hf hl => by
  subst ho hk
  match xs, hx with
  | x :: xs, hx =>
    obtain ⟨a, ha, q⟩ := h H enc w n _ x (by simpa using hf 0 f rfl) (fun k hk => hl k (by simp only [List.map_cons, DataW.weightsEach, List.mem_append]; exact .inl hk))
    obtain ⟨b, hb, q'⟩ := hr H enc w n cs xs hc (by simpa using hx) (fun i g hg => by simpa using hf (i + 1) g (by simpa using hg)) (fun k hk => hl k (by simp only [List.map_cons, DataW.weightsEach, List.mem_append]; exact .inr hk))
    refine ⟨(a, b), ?_, q, q'⟩
    show _ = c a ++ c' b
    rw [← ha, ← hb, ← List.drop_drop, List.take_append_drop]
theorem opens_struct {t : TypeId} {fs : Array Field} {tot : Nat} (ht : P.underlying t = some (.struct fs)) (hc : P.cellsOf t = tot) {c : α → List Value} {Q : World → α → Prop} (h : OpensF P fs.toList 0 tot c Q) : Opens P t c Q := fun H enc w fuel cs x hx hl => by
  obtain ⟨xs, n, rfl, rfl, hlen, hxl, hf⟩ := DataW.trod_struct ht hx
  have := h H enc w n cs xs (by rw [hlen, hc]) (by simpa using hxl) (fun i f hi => hf i f (by simpa using hi)) (fun k hk => hl k (by simp only [DataW.weights, ht]; exact hk))
  simpa using this

end Go.Proofs.YtnphokhehacfnaaGreatDoor

namespace Go.Proofs.YtnphokhehacfnaaGreatDoor
open Go.RowKit

theorem SV.after {w w' : World} {g : Nat} {s : Sch} {A : Option Addr} {cap : Nat} (h : SV w g s A cap) (hb : Below w.heap.size w w') : SV w' g s A cap := ⟨h.blk.below hb h.blk.lt, h.sin.below hb⟩
end Go.Proofs.YtnphokhehacfnaaGreatDoor

namespace Go.Proofs.YtnphokhehacfnaaGreatDoor
open Go.ChangeShapes Go.WideShapes Go.ChangeAt Go.RowKit

theorem cells_int : Tryz.prog.cellsOf 3 = 1 := by kernel_rfl
theorem cells_str : Tryz.prog.cellsOf 9 = 1 := by kernel_rfl
theorem o_str : Opens Tryz.prog 9 (fun s : ByteArray => [.string s]) (fun _ s => s.size ≤ maxLen ∧ s.size ≤ reachBytes) := opens_string Tryz.underlying9

set_option maxRecDepth 100000 in
theorem o_col : Opens Tryz.prog 90 Col.cells (fun _ c => c.name.size ≤ 9223372036854775807) :=
  (opens_struct Tryz.underlying90 (tot := 3) (by kernel_rfl) (opensF_cons (by rfl) cells_int o_int (opensF_cons (by rfl) cells_str o_str (opensF_cons (by rfl) cells_int o_int (opensF_nil (by rfl)))))).map
    (fun p : Int × ByteArray × Int × Unit => (⟨p.1, p.2.1, p.2.2.1⟩ : Col)) (by intro _; rfl) (by intro w p h; have := h.2.1.1; simpa [maxLen] using this)
theorem o_cols : Opens Tryz.prog 22 (fun p : Option Addr × Nat × List Col => [.slice p.1 p.2.2.length p.2.1])
    (fun w p => p.2.2.length ≤ p.2.1 ∧ p.2.1 ≤ 9223372036854775807 ∧ p.2.1 ≤ 4398046511102 ∧ SlAt w w.heap.size 3 p.1 (p.2.2.map Col.cells) ∧ ∀ c ∈ p.2.2, c.name.size ≤ 9223372036854775807) :=
  (opens_slice Tryz.underlying22 (size := 3) (bytes := 32) (by kernel_rfl) (by decide) (by kernel_rfl) o_col).map id (fun _ => rfl) (fun w p h => ⟨h.1, by have := h.2.1; simpa [maxLen] using this, by have := h.2.2.1; simp only [reachBytes] at this; simp only [id]; omega, h.2.2.2.1, h.2.2.2.2⟩)

set_option maxRecDepth 100000 in
theorem o_sch : Opens Tryz.prog 24 (fun p : Sch × Option Addr × Nat => [.int .i64 p.1.id, .slice p.2.1 p.1.cols.length p.2.2, .int .i64 p.1.next]) (fun w p => SchIn w p.1 p.2.1 p.2.2) :=
  (opens_struct Tryz.underlying24 (tot := 3) (by kernel_rfl) (opensF_cons (by rfl) cells_int o_int (opensF_cons (by rfl) (show Tryz.prog.cellsOf 22 = 1 by kernel_rfl) o_cols (opensF_cons (by rfl) cells_int o_int (opensF_nil (by rfl)))))).map
    (fun p : Int × (Option Addr × Nat × List Col) × Int × Unit => (⟨⟨p.1, p.2.1.2.2, p.2.2.1⟩, p.2.1.1, p.2.1.2.1⟩ : Sch × Option Addr × Nat)) (by intro _; rfl) (by intro w p h; exact ⟨h.2.1.1, h.2.1.2.1, Nat.le_trans h.2.1.1 h.2.1.2.2.1, h.2.1.2.2.2.1, h.2.1.2.2.2.2⟩)
theorem o_strs : Opens Tryz.prog 31 (fun p : Option Addr × Nat × List ByteArray => [.slice p.1 p.2.2.length p.2.1])
    (fun w p => p.2.2.length ≤ p.2.1 ∧ p.2.1 ≤ 8796093021952 ∧ SlAt w w.heap.size 1 p.1 (strCells p.2.2) ∧ ∀ n ∈ p.2.2, n.size ≤ 9223372036854775807) :=
  (opens_slice Tryz.underlying31 (size := 1) (bytes := 16) (by kernel_rfl) (by decide) (by kernel_rfl) o_str).map id (fun _ => rfl) (fun w p h => ⟨h.1, by have := h.2.2.1; simp only [reachBytes] at this; simp only [id]; omega, h.2.2.2.1, fun n hn => by have := (h.2.2.2.2 n hn).1; simpa [maxLen] using this⟩)
end Go.Proofs.YtnphokhehacfnaaGreatDoor

namespace Go.Proofs.YtnphokhehacfnaaGreatDoor
open Go.RowKit

theorem nextR_iv {s t : Sch} (h : nextR s = (t, 0)) : s = t ∧ mayB t = true := by
  unfold nextR at h
  split at h
  · rename_i hm
    simp at h
    subst h
    exact ⟨rfl, hm⟩
  · simp at h
theorem renameR_iv {s t : Sch} {nm nwT : ByteArray} (h : renameR s nm nwT = (t, 0)) : t.cols = setName s.cols (s.cols.findIdx (named nm)) nwT ∧ mayB t = true := by
  unfold renameR at h
  split at h
  · simp at h
  split at h
  · simp at h
  split at h
  · simp at h
  split at h
  · simp at h
  obtain ⟨rfl, hm⟩ := nextR_iv h
  exact ⟨rfl, hm⟩
theorem addR_iv {s t : Sch} {nm : ByteArray} {k : Int} (h : addR s nm k = (t, 0)) : t.cols = s.cols ++ [⟨s.next, nm, k⟩] ∧ mayB t = true := by
  unfold addR at h
  split at h
  · simp at h
  split at h
  · simp at h
  split at h
  · simp at h
  split at h
  · simp at h
  split at h
  · simp at h
  obtain ⟨rfl, hm⟩ := nextR_iv h
  exact ⟨rfl, hm⟩
end Go.Proofs.YtnphokhehacfnaaGreatDoor

