/-
  A schema that is handed in, and one that is answered.
-/
import Derived.Test.YtinpnginjpfbpaaDoorC
import Derived.Test.YtinpnginjpfbpaaDoorBase
namespace Go.Proofs.YtinpnginjpfbpaaDoor
open Go.RowKit

/-- The call answers the schema and the error r; the schema's columns lie in new memory. -/
def SchRes (w : World) (r : Sch × Int) (e : Ending) (w' : World) : Prop :=
  ∃ (A : Option Addr) (cap : Nat), e = .returned (.tuple #[r.1.val A cap, .int .i64 r.2]) ∧ r.1.cols.length ≤ cap ∧ cap ≤ maxLen ∧
    Own w' w.heap.size 53 3 (.slice A r.1.cols.length cap) (r.1.cols.map Col.cells) ∧ Below w.heap.size w w'

theorem SchRes.mono_ {w w0 w' : World} {r : Sch × Int} {e : Ending} (h : SchRes w0 r e w') (hb : Below w.heap.size w w0) : SchRes w r e w' := by
  obtain ⟨A, cap, he, h1, h2, h3, h4⟩ := h
  exact ⟨A, cap, he, h1, h2, h3.more hb.size, hb.trans (h4.mono hb.size)⟩

/-- Stored into the result's own block. -/
theorem SchRes.store {w w0 w' : World} {r : Nat} {s : Sch} {n : Int} {A : Option Addr} {cap : Nat} {a b c : Value} (h1 : s.cols.length ≤ cap) (h2 : cap ≤ maxLen) (hown : Own w' w0.heap.size 53 3 (.slice A s.cols.length cap) (s.cols.map Col.cells))
    (hb : Below w.heap.size w w') (h0 : w.heap.size ≤ w0.heap.size) (hr : Blk w' r 24 [a, b, c]) (hlt : w.heap.size ≤ r) :
    SchRes w (s, n) (.returned (.tuple #[s.val A cap, .int .i64 n])) (((w'.setCell ⟨r, 0, none⟩ (.int .i64 s.id)).setCell ⟨r, 1, none⟩ (.slice A s.cols.length cap)).setCell ⟨r, 2, none⟩ (.int .i64 s.next)) :=
  ⟨A, cap, rfl, h1, h2, (hown.more h0).store3 hr (by decide) _ _ _, below3 hb hlt _ _ _⟩
theorem SchRes.err {w w' : World} {n : Int} (hb : Below w.heap.size w w') : SchRes w (Sch.zero, n) (.returned (.tuple #[.agg #[.int .i64 0, .slice none 0 0, .int .i64 0], .int .i64 n])) w' :=
  ⟨none, 0, rfl, Nat.le_refl _, by simp [maxLen], Own.nil_ _ _ _ _, hb⟩

/-- What every call of the schema's functions asks of a schema that is handed in. -/
structure SchIn (w : World) (s : Sch) (A : Option Addr) (cap : Nat) : Prop where
  hcap : s.cols.length ≤ cap
  hcapm : cap ≤ 9223372036854775807
  len : s.cols.length ≤ 4398046511102
  at_ : SlAt w w.heap.size 3 A (s.cols.map Col.cells)
  names : ∀ c ∈ s.cols, c.name.size ≤ 9223372036854775807
theorem SchIn.al {w : World} {s : Sch} {A : Option Addr} {cap : Nat} (h : SchIn w s A cap) (o : Obj) : SchIn (w.alloc o) s A cap := ⟨h.hcap, h.hcapm, h.len, h.at_.al o, h.names⟩
theorem SchIn.below {w w' : World} {s : Sch} {A : Option Addr} {cap : Nat} (h : SchIn w s A cap) (hb : Below w.heap.size w w') : SchIn w' s A cap := ⟨h.hcap, h.hcapm, h.len, (h.at_.keep hb).more hb.size, h.names⟩
theorem SchIn.may {w : World} {s : Sch} {A : Option Addr} {cap : Nat} (h : SchIn w s A cap) : Calls Tryd.prog 18 #[s.val A cap] w fun e w' => e = .returned (.bool (mayB s)) ∧ Below w.heap.size w w' :=
  may_any s A cap w h.hcap h.hcapm (by have := h.len; omega) h.at_ h.names
theorem SchIn.find {w : World} {s : Sch} {A : Option Addr} {cap : Nat} (h : SchIn w s A cap) (nm : ByteArray) : Calls Tryd.prog 26 #[s.val A cap, .string nm] w fun e w' => e = .returned (.int .i64 (idx (named nm) s.cols)) ∧ Below w.heap.size w w' :=
  find_any s.id s.next A cap s.cols nm w (by have := h.len; omega) h.at_

theorem SchRes.got {w w' : World} {s : Sch} {n : Int} {e : Ending} (h : SchRes w (s, n) e w') (hl : s.cols.length ≤ 4398046511102) (hn : ∀ c ∈ s.cols, c.name.size ≤ 9223372036854775807) :
    ∃ A cap, e = .returned (.tuple #[s.val A cap, .int .i64 n]) ∧ SchIn w' s A cap ∧ Own w' w.heap.size 53 3 (.slice A s.cols.length cap) (s.cols.map Col.cells) ∧ Below w.heap.size w w' := by
  obtain ⟨A, cap, he, h1, h2, h3, h4⟩ := h
  obtain ⟨A3, cap3, hA3, _, _, hat, _⟩ := h3.slice (cols_fit _).len (by simp : (s.cols.map Col.cells).length = s.cols.length)
  obtain ⟨rfl, rfl⟩ : A = A3 ∧ cap = cap3 := by simpa using hA3
  exact ⟨A, cap, he, ⟨h1, by simpa [maxLen] using h2, hl, hat, hn⟩, h3, h4⟩
/-- A variable of a schema's type: its block, and what it leads to. -/
structure SV (w : World) (g : Nat) (s : Sch) (A : Option Addr) (cap : Nat) : Prop where
  blk : Blk w g 24 [.int .i64 s.id, .slice A s.cols.length cap, .int .i64 s.next]
  sin : SchIn w s A cap
theorem SV.after {w w' : World} {g : Nat} {s : Sch} {A : Option Addr} {cap : Nat} (h : SV w g s A cap) (hb : Below w.heap.size w w') : SV w' g s A cap := ⟨h.blk.below hb h.blk.lt, h.sin.below hb⟩
theorem SV.al {w : World} {g : Nat} {s : Sch} {A : Option Addr} {cap : Nat} (h : SV w g s A cap) (o : Obj) : SV (w.alloc o) g s A cap := ⟨h.blk.alloc o, h.sin.al o⟩
theorem SchIn.var {w : World} {s : Sch} {A : Option Addr} {cap : Nat} (h : SchIn w s A cap) : SV (w.alloc (.cells #[.int .i64 s.id, .slice A s.cols.length cap, .int .i64 s.next] 24)) w.heap.size s A cap :=
  ⟨Blk.new w _ _, h.al _⟩

theorem mayB_head {s : Sch} (h : mayB s = true) : headOk s := by
  simp only [mayB, Bool.and_eq_true, decide_eq_true_eq] at h
  exact h.1
end Go.Proofs.YtinpnginjpfbpaaDoor
