/-
  Parse, Print, Get, SameJson by the cells of their values; awake.
-/
import Derived.Test.YtoibfefalflooaaDoorJ4
namespace Go.Proofs.YtoibfefalflooaaDoor
open Go.RowKit

/-- A value's cells, and what they lead to. -/
def Rdd (w : World) (j : J) (k : Int) (b : Bool) (n : Int) (s : ByteArray) (A : Option Addr) (nl c : Nat) (AK : Option Addr) (nk cK : Nat) : Prop :=
  ∃ (l : List T) (ks : List ByteArray), l.length = nl ∧ ks.length = nk ∧ T.j (.mk k b n s A c l AK cK ks) = j ∧ RdT w (.mk k b n s A c l AK cK ks)
section
variable {w w' : World} {j : J} {k : Int} {b : Bool} {n : Int} {s : ByteArray} {A : Option Addr} {nl c : Nat} {AK : Option Addr} {nk cK : Nat}
theorem Rdd.fut (h : Rdd w j k b n s A nl c AK nk cK) [f : Fut w w'] : Rdd w' j k b n s A nl c AK nk cK :=
  let ⟨l, ks, h1, h2, h3, h4⟩ := h
  ⟨l, ks, h1, h2, h3, RdT.fut h4⟩
theorem Rdd.eqs (h : Rdd w j k b n s A nl c AK nk cK) : k = j.k ∧ b = j.b ∧ n = j.n ∧ s = j.s ∧ nl = j.l.length ∧ nk = j.ks.length := by
  obtain ⟨l, ks, rfl, rfl, rfl, _⟩ := h
  rw [T.j]
  exact ⟨rfl, rfl, rfl, rfl, by show _ = (T.js l).length; rw [js_map, List.length_map], rfl⟩
theorem Rdd.of {t : T} (h : RdT w t) (hj : t.j = j) : ∃ (k : Int) (b : Bool) (n : Int) (s : ByteArray) (A : Option Addr) (nl c : Nat) (AK : Option Addr) (nk cK : Nat), t.cells = [.int .i64 k, .bool b, .int .i64 n, .string s, .slice A nl c, .slice AK nk cK] ∧ Rdd w j k b n s A nl c AK nk cK := by
  cases t with
  | mk k b n s A c l AK cK ks => exact ⟨k, b, n, s, A, l.length, c, AK, ks.length, cK, rfl, l, ks, rfl, rfl, hj, h⟩
theorem Rdd.zero (w : World) : Rdd w J.zero 0 false 0 ⟨#[]⟩ none 0 0 none 0 0 := ⟨[], [], rfl, rfl, rfl, TAt.rd (TAt.zero w (fun _ => True)) fine_zero⟩
/-- Print of a value by its cells. -/
theorem print_rdd (w0 : World) (h : Rdd w0 j k b n s A nl c AK nk cK) (w : World) (htb : Tab w) [f : Fut w0 w] : Calls Tryd.prog 15 #[.agg #[.int .i64 k, .bool b, .int .i64 n, .string s, .slice A nl c, .slice AK nk cK]] w fun e w' => e = .returned (.tuple #[.string (printP j).1, .int .i64 (printP j).2]) ∧ Step w w' := by
  obtain ⟨l, ks, rfl, rfl, rfl, h4⟩ := h
  exact jprint_any (.mk k b n s A c l AK cK ks) w htb (RdT.fut h4)
end
def EX6 (P : Int → Bool → Int → ByteArray → Option Addr → Nat → Nat → Option Addr → Nat → Nat → Prop) : Prop := ∃ (k : Int) (b : Bool) (n : Int) (s : ByteArray) (A : Option Addr) (nl c : Nat) (AK : Option Addr) (nk cK : Nat), P k b n s A nl c AK nk cK
/-- Parse by the cells of what it says. -/
theorem parse_rdd (t : ByteArray) (w : World) (hm : t.size ≤ 9223372036854775807) : Calls Tryd.prog 10 #[.string t] w fun e w' => (∃ (k : Int) (b : Bool) (n : Int) (s : ByteArray) (A : Option Addr) (nl c : Nat) (AK : Option Addr) (nk cK : Nat), e = .returned (.tuple #[.agg #[.int .i64 k, .bool b, .int .i64 n, .string s, .slice A nl c, .slice AK nk cK], .int .i64 (parseP t).2]) ∧ Rdd w' (parseP t).1 k b n s A nl c AK nk cK) ∧ Step w w' :=
  (jparse_any t w hm).mono fun e w' hh => by
    obtain ⟨u, h1, h2, h3, h4⟩ := hh
    obtain ⟨k, b, n, s, A, nl, c, AK, nk, cK, hc, hr⟩ := Rdd.of (h3.rd (by rw [h2]; exact parse_fine t)) h2
    exact ⟨⟨k, b, n, s, A, nl, c, AK, nk, cK, by rw [h1, hc], hr⟩, h4⟩
theorem js_get {l : List J} : ∀ {ks : List ByteArray} {key : ByteArray}, FineJs l → FineJ (getF ks l key).1 := by
  induction l with
  | nil => intro ks key _; rw [getF_none]; exact fine_zero
  | cons j r ih =>
    intro ks key h
    rw [FineJs] at h
    cases ks with
    | nil => rw [getF_nil]; exact fine_zero
    | cons k ks =>
      by_cases hk : k = key
      · rw [getF_yes hk]; exact h.1
      · rw [getF_no hk]; exact ih h.2
theorem get_fine {j : J} {key : ByteArray} (h : FineJ j) : FineJ (getP j key).1 := by
  unfold getP
  split
  · cases j with
    | mk k b n s l ks => rw [FineJ] at h; exact js_get h.2.2.2.2
  · exact fine_zero
mutual
theorem RdT.fine {w : World} : ∀ {t : T}, RdT w t → FineJ t.j
  | .mk _ _ _ _ A c l AK cK ks, h => by
    rw [RdT] at h
    rw [T.j, FineJ]
    have hl : (T.js l).length = l.length := by rw [js_map, List.length_map]
    rw [hl]
    exact ⟨h.2.2.1, h.2.2.2.1, h.2.2.2.2.1, h.2.2.2.2.2.1, RdTs.fine h.2.2.2.2.2.2⟩
theorem RdTs.fine {w : World} : ∀ {l : List T}, RdTs w l → FineJs (T.js l)
  | [], _ => by rw [T.js, FineJs]; trivial
  | t :: r, h => by rw [RdTs] at h; rw [T.js, FineJs]; exact ⟨RdT.fine h.1, RdTs.fine h.2⟩
end
section
variable {j : J} {k : Int} {b : Bool} {n : Int} {s : ByteArray} {A : Option Addr} {nl c : Nat} {AK : Option Addr} {nk cK : Nat}
theorem Rdd.fine {w : World} (h : Rdd w j k b n s A nl c AK nk cK) : FineJ j := by
  obtain ⟨l, ks, _, _, rfl, h4⟩ := h
  exact RdT.fine h4
/-- Get of a value by its cells. -/
theorem get_rdd (w0 : World) (h : Rdd w0 j k b n s A nl c AK nk cK) (key : ByteArray) (w : World) [f : Fut w0 w] : Calls Tryd.prog 17 #[.agg #[.int .i64 k, .bool b, .int .i64 n, .string s, .slice A nl c, .slice AK nk cK], .string key] w fun e w' => (∃ (k : Int) (b : Bool) (n : Int) (s : ByteArray) (A : Option Addr) (nl c : Nat) (AK : Option Addr) (nk cK : Nat), e = .returned (.tuple #[.agg #[.int .i64 k, .bool b, .int .i64 n, .string s, .slice A nl c, .slice AK nk cK], .bool (getP j key).2]) ∧ Rdd w' (getP j key).1 k b n s A nl c AK nk cK) ∧ Step w w' := by
  have hf := h.fine
  obtain ⟨l, ks, rfl, rfl, rfl, h4⟩ := h
  refine (jget_any (.mk k b n s A c l AK cK ks) key w (RdT.fut h4)).mono fun e w' hh => ?_
  obtain ⟨u, h1, h2, h3, h5⟩ := hh
  obtain ⟨k2, b2, n2, s2, A2, nl2, c2, AK2, nk2, cK2, hc, hr⟩ := Rdd.of (h3.rd (by rw [h2]; exact get_fine hf)) h2
  exact ⟨⟨k2, b2, n2, s2, A2, nl2, c2, AK2, nk2, cK2, by rw [h1, hc], hr⟩, h5⟩
/-- Two values of one content are the same. -/
theorem same_rdd {k2 : Int} {b2 : Bool} {n2 : Int} {s2 : ByteArray} {A2 : Option Addr} {nl2 c2 : Nat} {AK2 : Option Addr} {nk2 cK2 : Nat} (w1 w2 : World) (h1 : Rdd w1 j k b n s A nl c AK nk cK) (h2 : Rdd w2 j k2 b2 n2 s2 A2 nl2 c2 AK2 nk2 cK2) (w : World) [f1 : Fut w1 w] [f2 : Fut w2 w] :
    Calls Tryd.prog 12 #[.agg #[.int .i64 k, .bool b, .int .i64 n, .string s, .slice A nl c, .slice AK nk cK], .agg #[.int .i64 k2, .bool b2, .int .i64 n2, .string s2, .slice A2 nl2 c2, .slice AK2 nk2 cK2]] w fun e w' => e = .returned (.bool true) ∧ Step w w' := by
  obtain ⟨l, ks, rfl, rfl, hj, h4⟩ := h1
  obtain ⟨l2, ks2, rfl, rfl, hj2, h5⟩ := h2
  exact same_any (.mk k b n s A c l AK cK ks) (.mk k2 b2 n2 s2 A2 c2 l2 AK2 cK2 ks2) w (RdT.fut h4) (RdT.fut h5) (hj.trans hj2.symm)
end
theorem num_any (e : Int) (w : World) : Calls Tryd.prog 13 #[.int .i64 e] w fun r w' => r = .returned (.int .i64 e) ∧ w' = w := by
  go_enter Tryd.func13, Tryd.ntmps13
  go_wp2
  go_ret
  exact ⟨rfl, rfl⟩

def aT : ByteArray := ⟨#[32, 123, 34, 97, 34, 58, 91, 49, 44, 45, 50, 44, 110, 117, 108, 108, 44, 34, 120, 92, 110, 34, 93, 125, 32]⟩
def aU : ByteArray := ⟨#[123, 34, 97, 34, 58, 91, 49, 44, 45, 50, 44, 110, 117, 108, 108, 44, 34, 120, 92, 110, 34, 93, 125]⟩
def aL : J := .mk 4 false 0 ⟨#[]⟩ [.mk 2 false 1 ⟨#[]⟩ [] [], .mk 2 false (-2) ⟨#[]⟩ [] [], J.zero, .mk 3 false 0 ⟨#[120, 10]⟩ [] []] []
def aJ : J := .mk 5 false 0 ⟨#[]⟩ [aL] [⟨#[97]⟩]
theorem a_parse : parseP aT = (aJ, 0) := by kernel_rfl
theorem a_bad : (parseP ⟨#[91, 49, 46, 48, 93]⟩).2 = 300 := by kernel_rfl
theorem a_print : printP aJ = (aU, 0) := by kernel_rfl
theorem a_get : getP aJ ⟨#[97]⟩ = (aL, true) := by kernel_rfl
theorem a_no : getP aJ ⟨#[98]⟩ = (J.zero, false) := by kernel_rfl
end Go.Proofs.YtoibfefalflooaaDoor
