/-
  May, Find, NewSchema of schemas, asked in whatever later world.
-/
import Derived.Test.YtinpnginjpfbpaaDoorNs
namespace Go.Proofs.YtinpnginjpfbpaaDoor
open Go.RowKit

/-- A schema whose columns are few and have short names. -/
def Fine (s : Sch) : Prop := s.cols.length ≤ 12 ∧ ∀ c ∈ s.cols, c.name.size ≤ 16
theorem may_fine {s : Sch} (h : mayB s = true) : Fine s := by
  obtain ⟨⟨_, _, _, a, _⟩, b, _⟩ := mayB_iff.1 h
  refine ⟨a, fun c hc => ?_⟩
  obtain ⟨_, _, h3, _⟩ := colOk_inv (b c hc)
  simp only [nameB, Bool.and_eq_true, decide_eq_true_eq] at h3
  exact h3.1.2
theorem zero_fine : Fine Sch.zero := ⟨by decide, fun c hc => by simp [Sch.zero] at hc⟩
theorem next_fine (s : Sch) : Fine (nextR s).1 := by
  unfold nextR
  split
  · exact may_fine (by assumption)
  · exact zero_fine
theorem new_fine (ns : List ByteArray) (ks : List Int) : Fine (newR ns ks).1 := by
  unfold newR
  split
  · exact zero_fine
  · exact next_fine _

/-- The call answers the schema and the error: read, and the columns' memory is the call's own. -/
def SR (w : World) (r : Sch × Int) (e : Ending) (w' : World) : Prop :=
  ∃ (A : Option Addr) (cap : Nat), e = .returned (.tuple #[.agg #[.int .i64 r.1.id, .slice A r.1.cols.length cap, .int .i64 r.1.next], .int .i64 r.2]) ∧ SchIn w' r.1 A cap ∧
    Own w' w.heap.size 53 3 (.slice A r.1.cols.length cap) (r.1.cols.map Col.cells) ∧ Step w w'
theorem SchRes.sr {w w' : World} {r : Sch × Int} {e : Ending} (h : SchRes w r e w') (hf : Fine r.1) : SR w r e w' := by
  obtain ⟨A, cap, he, h1, h2, h3, h4⟩ := h
  exact ⟨A, cap, he, ⟨h1, by simpa [maxLen] using h2, Nat.le_trans hf.1 (by decide), h3.sl (cols_fit _).len, fun c hc => Nat.le_trans (hf.2 c hc) (by decide)⟩, h3, ⟨h4⟩⟩

variable {w0 : World}
theorem pmay (s : Sch) (A : Option Addr) (cap : Nat) (w : World) (h : SchIn w0 s A cap) [Fut w0 w] :
    Calls Tryd.prog 18 #[s.val A cap] w fun e w' => e = .returned (.bool (mayB s)) ∧ Step w w' := h.fut.may.mono fun _ _ h => ⟨h.1, ⟨h.2⟩⟩
theorem pfind (s : Sch) (A : Option Addr) (cap : Nat) (nm : ByteArray) (w : World) (h : SchIn w0 s A cap) [Fut w0 w] :
    Calls Tryd.prog 26 #[s.val A cap, .string nm] w fun e w' => e = .returned (.int .i64 (idx (named nm) s.cols)) ∧ Step w w' := (h.fut.find nm).mono fun _ _ h => ⟨h.1, ⟨h.2⟩⟩
theorem qnew {wn wk : World} (ns : List ByteArray) (ks : List Int) (An Ak : Option Addr) (cn ck : Nat) (w : World) (hn : SlAt wn wn.heap.size 1 An (strCells ns)) (hk : SlAt wk wk.heap.size 1 Ak (intCells ks)) [Fut wn w] [Fut wk w]
    (hns : (ns.length + 2) * 32 ≤ 140737488355328) (hnm : ∀ n ∈ ns, n.size ≤ 9223372036854775807) :
    Calls Tryd.prog 32 #[.slice An ns.length cn, .slice Ak ks.length ck] w (SR w (newR ns ks)) := (rnew_any ns ks An Ak cn ck w hn hk hns hnm).mono fun _ _ h => by
  rw [newR_eq]
  have h2 := new_fine ns ks
  rw [newR_eq] at h2
  exact h.sr h2
end Go.Proofs.YtinpnginjpfbpaaDoor
