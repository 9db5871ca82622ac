/-
  Texts put together: what the packs struck of Open, OpSch.
-/
import Derived.WalkKit
import Derived.ProofKit
import Derived.OpenShut
import Derived.LaidMore
import Derived.Lay
import Derived.Below
import Derived.ChangeSame
import Derived.SevenTiedAt
import Derived.Stop.Joined
import Derived.Deep.DeepHandedRow
import Derived.WalkSpells
import Derived.WalkLawsBesides
import Derived.BigQuiet
import Derived.Deep.QuietTactic
import Derived.Outline
import Derived.Lib.Hide
import Derived.Maps.AppendAt
import Derived.Deep.RegionLaw
import Derived.StillTailTactics
import Derived.Deep.RegionHeld3
import Derived.Deep.Slices
import Derived.Shelf.Strings.SlTrimAscii
import Derived.Deep.Cut
import Derived.Deep.CutBlock
import Derived.Laws.BitsAllLaws
import Derived.BigRegion
import Derived.Deep.DeepCutAuto
import Derived.Laws.Externs
import Derived.Tactics2
import Derived.Defers
import Derived.Recover
import Derived.WalkSmall
import Derived.Test.YtnphokhehacfnaaGreatDoorCz30
import Derived.Test.YtnphokhehacfnaaGreatDoorCz00
import Derived.Test.YtnphokhehacfnaaGreatDoorCz01
import Derived.Test.YtnphokhehacfnaaGreatDoorCz02
import Derived.Test.YtnphokhehacfnaaGreatDoorCz03
import Derived.Test.YtnphokhehacfnaaGreatDoorCz04
import Derived.Test.YtnphokhehacfnaaGreatDoorCz05
import Derived.Test.YtnphokhehacfnaaGreatDoorCz06
import Derived.Test.YtnphokhehacfnaaGreatDoorCz07
import Derived.Test.YtnphokhehacfnaaGreatDoorCz08
import Derived.Test.YtnphokhehacfnaaGreatDoorCz09
import Derived.Test.YtnphokhehacfnaaGreatDoorCz10
import Derived.Test.YtnphokhehacfnaaGreatDoorCz11
import Derived.Test.YtnphokhehacfnaaGreatDoorCz12
import Derived.Test.YtnphokhehacfnaaGreatDoorCz13
import Derived.Test.YtnphokhehacfnaaGreatDoorCz14
import Derived.Test.YtnphokhehacfnaaGreatDoorCz15
import Derived.Test.YtnphokhehacfnaaGreatDoorCz16
import Derived.Test.YtnphokhehacfnaaGreatDoorCz17
import Derived.Test.YtnphokhehacfnaaGreatDoorCz18
import Derived.Test.YtnphokhehacfnaaGreatDoorCz19
import Derived.Test.YtnphokhehacfnaaGreatDoorCz20
import Derived.Test.YtnphokhehacfnaaGreatDoorCz21
import Derived.Test.YtnphokhehacfnaaGreatDoorCz22
import Derived.Test.YtnphokhehacfnaaGreatDoorCz23
namespace Go.Proofs.YtnphokhehacfnaaGreatDoor
open Go.ChangeShapes Go.WideShapes Go.ChangeAt Go.RowKit

variable {P : Program} {α β : Type}
theorem opens_bool {t : TypeId} (ht : P.underlying t = some .bool) : Opens P t (fun b : Bool => [.bool b]) (fun _ _ => True) := fun H enc w fuel cs x hx _ => by
  obtain ⟨b, rfl, _⟩ := DataW.trod_bool ht hx
  exact ⟨b, rfl, trivial⟩
theorem opens_string {t : TypeId} (ht : P.underlying t = some .string) : Opens P t (fun s : ByteArray => [.string s]) (fun _ s => s.size ≤ maxLen ∧ s.size ≤ reachBytes) := fun H enc w fuel cs x hx hl => by
  obtain ⟨s, rfl, rfl, hs⟩ := DataW.trod_string ht hx
  exact ⟨s, rfl, hs, hl _ (by simp [DataW.weights])⟩

theorem opensF_nil {off tot : Nat} (h : off = tot) : OpensF P [] off tot (fun _ : Unit => []) (fun _ _ => True) := fun H enc w n cs xs hc _ _ _ => ⟨(), by simp [hc, h], trivial⟩
theorem opensF_cons {f : Field} {fs : List Field} {off k tot : Nat} (ho : f.offset = off) (hk : P.cellsOf f.type = k) {c : α → List Value} {Q : World → α → Prop} (h : Opens P f.type c Q) {c' : β → List Value} {Q' : World → β → Prop} (hr : OpensF P fs (off + k) tot c' Q') :
    OpensF P (f :: fs) off tot (fun p : α × β => c p.1 ++ c' p.2) (fun w p => Q w p.1 ∧ Q' w p.2) := fun H enc w n cs xs hc hx hf hl => by
  subst ho hk
  match xs, hx with
  | x :: xs, hx =>
    obtain ⟨a, ha, q⟩ := h H enc w n _ x (by simpa using hf 0 f rfl) (fun k hk => hl k (by simp only [List.map_cons, DataW.weightsEach, List.mem_append]; exact .inl hk))
    obtain ⟨b, hb, q'⟩ := hr H enc w n cs xs hc (by simpa using hx) (fun i g hg => by simpa using hf (i + 1) g (by simpa using hg)) (fun k hk => hl k (by simp only [List.map_cons, DataW.weightsEach, List.mem_append]; exact .inr hk))
    refine ⟨(a, b), ?_, q, q'⟩
    show _ = c a ++ c' b
    rw [← ha, ← hb, ← List.drop_drop, List.take_append_drop]
theorem opens_struct {t : TypeId} {fs : Array Field} {tot : Nat} (ht : P.underlying t = some (.struct fs)) (hc : P.cellsOf t = tot) {c : α → List Value} {Q : World → α → Prop} (h : OpensF P fs.toList 0 tot c Q) : Opens P t c Q := fun H enc w fuel cs x hx hl => by
  obtain ⟨xs, n, rfl, rfl, hlen, hxl, hf⟩ := DataW.trod_struct ht hx
  have := h H enc w n cs xs (by rw [hlen, hc]) (by simpa using hxl) (fun i f hi => hf i f (by simpa using hi)) (fun k hk => hl k (by simp only [DataW.weights, ht]; exact hk))
  simpa using this

end Go.Proofs.YtnphokhehacfnaaGreatDoor

namespace Go.Proofs.YtnphokhehacfnaaGreatDoor
open Go.ChangeShapes Go.WideShapes Go.ChangeAt Go.RowKit

theorem cells_int : Tryz.prog.cellsOf 3 = 1 := by kernel_rfl
theorem cells_str : Tryz.prog.cellsOf 9 = 1 := by kernel_rfl
theorem o_str : Opens Tryz.prog 9 (fun s : ByteArray => [.string s]) (fun _ s => s.size ≤ maxLen ∧ s.size ≤ reachBytes) := opens_string Tryz.underlying9

set_option maxRecDepth 100000 in
theorem o_col : Opens Tryz.prog 90 Col.cells (fun _ c => c.name.size ≤ 9223372036854775807) :=
  (opens_struct Tryz.underlying90 (tot := 3) (by kernel_rfl) (opensF_cons (by rfl) cells_int o_int (opensF_cons (by rfl) cells_str o_str (opensF_cons (by rfl) cells_int o_int (opensF_nil (by rfl)))))).map
    (fun p : Int × ByteArray × Int × Unit => (⟨p.1, p.2.1, p.2.2.1⟩ : Col)) (by intro _; rfl) (by intro w p h; have := h.2.1.1; simpa [maxLen] using this)
theorem o_cols : Opens Tryz.prog 22 (fun p : Option Addr × Nat × List Col => [.slice p.1 p.2.2.length p.2.1])
    (fun w p => p.2.2.length ≤ p.2.1 ∧ p.2.1 ≤ 9223372036854775807 ∧ p.2.1 ≤ 4398046511102 ∧ SlAt w w.heap.size 3 p.1 (p.2.2.map Col.cells) ∧ ∀ c ∈ p.2.2, c.name.size ≤ 9223372036854775807) :=
  (opens_slice Tryz.underlying22 (size := 3) (bytes := 32) (by kernel_rfl) (by decide) (by kernel_rfl) o_col).map id (fun _ => rfl) (fun w p h => ⟨h.1, by have := h.2.1; simpa [maxLen] using this, by have := h.2.2.1; simp only [reachBytes] at this; simp only [id]; omega, h.2.2.2.1, h.2.2.2.2⟩)

set_option maxRecDepth 100000 in
theorem o_sch : Opens Tryz.prog 24 (fun p : Sch × Option Addr × Nat => [.int .i64 p.1.id, .slice p.2.1 p.1.cols.length p.2.2, .int .i64 p.1.next]) (fun w p => SchIn w p.1 p.2.1 p.2.2) :=
  (opens_struct Tryz.underlying24 (tot := 3) (by kernel_rfl) (opensF_cons (by rfl) cells_int o_int (opensF_cons (by rfl) (show Tryz.prog.cellsOf 22 = 1 by kernel_rfl) o_cols (opensF_cons (by rfl) cells_int o_int (opensF_nil (by rfl)))))).map
    (fun p : Int × (Option Addr × Nat × List Col) × Int × Unit => (⟨⟨p.1, p.2.1.2.2, p.2.2.1⟩, p.2.1.1, p.2.1.2.1⟩ : Sch × Option Addr × Nat)) (by intro _; rfl) (by intro w p h; exact ⟨h.2.1.1, h.2.1.2.1, Nat.le_trans h.2.1.1 h.2.1.2.2.1, h.2.1.2.2.2.1, h.2.1.2.2.2.2⟩)
theorem o_strs : Opens Tryz.prog 31 (fun p : Option Addr × Nat × List ByteArray => [.slice p.1 p.2.2.length p.2.1])
    (fun w p => p.2.2.length ≤ p.2.1 ∧ p.2.1 ≤ 8796093021952 ∧ SlAt w w.heap.size 1 p.1 (strCells p.2.2) ∧ ∀ n ∈ p.2.2, n.size ≤ 9223372036854775807) :=
  (opens_slice Tryz.underlying31 (size := 1) (bytes := 16) (by kernel_rfl) (by decide) (by kernel_rfl) o_str).map id (fun _ => rfl) (fun w p h => ⟨h.1, by have := h.2.2.1; simp only [reachBytes] at this; simp only [id]; omega, h.2.2.2.1, fun n hn => by have := (h.2.2.2.2 n hn).1; simpa [maxLen] using this⟩)
end Go.Proofs.YtnphokhehacfnaaGreatDoor

