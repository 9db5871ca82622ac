/-
  The program's own functions on schemas, asked in whatever later world.
-/
import Derived.Test.YtfojdjmeefglcaaDoorRd
import Derived.Test.YtfojdjmeefglcaaDoorRe
import Derived.Test.YtfojdjmeefglcaaDoorO
namespace Go.Proofs.YtfojdjmeefglcaaDoor
open Go.RowKit

/-- A schema whose columns are few and have short names. -/
def Fine (s : Sch) : Prop := s.cols.length ≤ 12 ∧ ∀ c ∈ s.cols, c.name.size ≤ 16
theorem may_fine {s : Sch} (h : mayB s = true) : Fine s := by
  obtain ⟨⟨_, _, _, a, _⟩, b, _⟩ := mayB_iff.1 h
  refine ⟨a, fun c hc => ?_⟩
  obtain ⟨_, _, h3, _⟩ := colOk_inv (b c hc)
  simp only [nameB, Bool.and_eq_true, decide_eq_true_eq] at h3
  exact h3.1.2
theorem zero_fine : Fine Sch.zero := ⟨by decide, fun c hc => by simp [Sch.zero] at hc⟩
theorem next_fine (s : Sch) : Fine (nextR s).1 := by
  unfold nextR
  split
  · exact may_fine (by assumption)
  · exact zero_fine
theorem add_fine (s : Sch) (nm : ByteArray) (k : Int) : Fine (addR s nm k).1 := by
  unfold addR
  repeat' split
  all_goals first | exact zero_fine | exact next_fine _
theorem drop_fine (s : Sch) (nm : ByteArray) : Fine (dropR s nm).1 := by
  unfold dropR
  repeat' split
  all_goals first | exact zero_fine | exact next_fine _
theorem rename_fine (s : Sch) (nm nw : ByteArray) : Fine (renameR s nm nw).1 := by
  unfold renameR
  repeat' split
  all_goals first | exact zero_fine | exact next_fine _
theorem new_fine (ns : List ByteArray) (ks : List Int) : Fine (newR ns ks).1 := by
  unfold newR
  split
  · exact zero_fine
  · exact next_fine _

/-- The call answers the schema and the error: read, and the columns' memory is the call's own. -/
def SR (w : World) (r : Sch × Int) (e : Ending) (w' : World) : Prop :=
  ∃ (A : Option Addr) (cap : Nat), e = .returned (.tuple #[.agg #[.int .i64 r.1.id, .slice A r.1.cols.length cap, .int .i64 r.1.next], .int .i64 r.2]) ∧ SchIn w' r.1 A cap ∧
    Own w' w.heap.size 49 3 (.slice A r.1.cols.length cap) (r.1.cols.map Col.cells) ∧ Step w w'
theorem SchRes.sr {w w' : World} {r : Sch × Int} {e : Ending} (h : SchRes w r e w') (hf : Fine r.1) : SR w r e w' := by
  obtain ⟨A, cap, he, h1, h2, h3, h4⟩ := h
  exact ⟨A, cap, he, ⟨h1, by simpa [maxLen] using h2, Nat.le_trans hf.1 (by decide), h3.sl (cols_fit _).len, fun c hc => Nat.le_trans (hf.2 c hc) (by decide)⟩, h3, ⟨h4⟩⟩

variable {w0 : World}
theorem padd (s : Sch) (A : Option Addr) (cap : Nat) (nm : ByteArray) (k : Int) (w : World) (h : SchIn w0 s A cap) [Fut w0 w] (hn : nm.size ≤ 9223372036854775807) :
    Calls Tryd.prog 15 #[s.val A cap, .string nm, .int .i64 k] w (SR w (addR s nm k)) := (add_any s A cap nm k w h.fut hn).mono fun _ _ h => h.sr (add_fine _ _ _)
theorem pdrop (s : Sch) (A : Option Addr) (cap : Nat) (nm : ByteArray) (w : World) (h : SchIn w0 s A cap) [Fut w0 w] :
    Calls Tryd.prog 17 #[s.val A cap, .string nm] w (SR w (dropR s nm)) := (drop_any s A cap nm w h.fut).mono fun _ _ h => h.sr (drop_fine _ _)
theorem prename (s : Sch) (A : Option Addr) (cap : Nat) (nm nw : ByteArray) (w : World) (h : SchIn w0 s A cap) [Fut w0 w] (hn : nw.size ≤ 9223372036854775807) :
    Calls Tryd.prog 19 #[s.val A cap, .string nm, .string nw] w (SR w (renameR s nm nw)) := (rename_any s A cap nm nw w h.fut hn).mono fun _ _ h => h.sr (rename_fine _ _ _)
theorem pnew {wn wk : World} (ns : List ByteArray) (ks : List Int) (An Ak : Option Addr) (cn ck : Nat) (w : World) (hn : SlAt wn wn.heap.size 1 An (strCells ns)) (hk : SlAt wk wk.heap.size 1 Ak (intCells ks)) [Fut wn w] [Fut wk w]
    (hns : ns.length ≤ 8796093022208) (hnm : ∀ n ∈ ns, n.size ≤ 9223372036854775807) :
    Calls Tryd.prog 27 #[.slice An ns.length cn, .slice Ak ks.length ck] w (SR w (newR ns ks)) := (new_any ns ks An Ak cn ck w hn.fut hk.fut hns hnm).mono fun _ _ h => h.sr (new_fine _ _)
theorem pmay (s : Sch) (A : Option Addr) (cap : Nat) (w : World) (h : SchIn w0 s A cap) [Fut w0 w] :
    Calls Tryd.prog 23 #[s.val A cap] w fun e w' => e = .returned (.bool (mayB s)) ∧ Step w w' := h.fut.may.mono fun _ _ h => ⟨h.1, ⟨h.2⟩⟩
theorem pfind (s : Sch) (A : Option Addr) (cap : Nat) (nm : ByteArray) (w : World) (h : SchIn w0 s A cap) [Fut w0 w] :
    Calls Tryd.prog 29 #[s.val A cap, .string nm] w fun e w' => e = .returned (.int .i64 (idx (named nm) s.cols)) ∧ Step w w' := (h.fut.find nm).mono fun _ _ h => ⟨h.1, ⟨h.2⟩⟩
theorem qadd (s : Sch) (A : Option Addr) (cap : Nat) (nm : ByteArray) (k : Int) (w : World) (h : SchIn w0 s A cap) [Fut w0 w] :
    Calls Tryd.prog 16 #[s.val A cap, .string nm, .int .i64 k] w (SR w (addR s nm k)) := (radd_any s A cap nm k w h).mono fun _ _ h => h.sr (add_fine _ _ _)
theorem qdrop (s : Sch) (A : Option Addr) (cap : Nat) (nm : ByteArray) (w : World) (h : SchIn w0 s A cap) [Fut w0 w] :
    Calls Tryd.prog 18 #[s.val A cap, .string nm] w (SR w (dropR s nm)) := (rdrop_any s A cap nm w h).mono fun _ _ h => h.sr (drop_fine _ _)
theorem qrename (s : Sch) (A : Option Addr) (cap : Nat) (nm nw : ByteArray) (w : World) (h : SchIn w0 s A cap) [Fut w0 w] :
    Calls Tryd.prog 20 #[s.val A cap, .string nm, .string nw] w (SR w (renameR s nm nw)) := (rrename_any s A cap nm nw w h).mono fun _ _ h => h.sr (rename_fine _ _ _)
theorem qnew {wn wk : World} (ns : List ByteArray) (ks : List Int) (An Ak : Option Addr) (cn ck : Nat) (w : World) (hn : SlAt wn wn.heap.size 1 An (strCells ns)) (hk : SlAt wk wk.heap.size 1 Ak (intCells ks)) [Fut wn w] [Fut wk w]
    (hns : (ns.length + 2) * 32 ≤ 140737488355328) (hnm : ∀ n ∈ ns, n.size ≤ 9223372036854775807) :
    Calls Tryd.prog 28 #[.slice An ns.length cn, .slice Ak ks.length ck] w (SR w (newR ns ks)) := (rnew_any ns ks An Ak cn ck w hn hk hns hnm).mono fun _ _ h => by
  rw [newR_eq]
  have h2 := new_fine ns ks
  rw [newR_eq] at h2
  exact h.sr h2
theorem pawake (w : World) : Calls Tryd.prog 31 #[] w fun e w' => e = .returned (.bool true) ∧ Step w w' := (awake12_any w).mono fun _ _ h => ⟨h.1, ⟨h.2⟩⟩
end Go.Proofs.YtfojdjmeefglcaaDoor
