/-
  The document's printer: add, fail.
-/
import Derived.Test.YtoibfefalflooaaDoorJs
namespace Go.Proofs.YtoibfefalflooaaDoor
open Go.RowKit

/-- What the document's printer has: bytes and a code. -/
def DocP (w : World) (g : Nat) (b : List UInt8) (code : Int) : Prop :=
  ∃ (A : Option Addr) (n c : Nat), Blk w g 66 [.slice A n c, .int .i64 code] ∧ Own w (g + 1) 5 1 (.slice A n c) (byteCells b) ∧ b.length = n ∧ n ≤ 16777216
theorem DocP.fut {w w' : World} {g : Nat} {b : List UInt8} {code : Int} (h : DocP w g b code) [k : Fut w w'] : DocP w' g b code :=
  let ⟨A, n, c, h1, h2, h3⟩ := h
  ⟨A, n, c, h1.fut, h2.fut, h3⟩
theorem DocP.lt {w : World} {g : Nat} {b : List UInt8} {code : Int} (h : DocP w g b code) : g < w.heap.size := let ⟨_, _, _, h1, _⟩ := h; h1.lt
def codeD (b : List UInt8) (code : Int) : Int := if code = 0 ∧ 65536 < b.length then 302 else code
def addB (b : List UInt8) (code : Int) (t : List UInt8) : List UInt8 := if codeD b code = 0 then b ++ t else b
def failC (b : List UInt8) (code c : Int) : Int := if codeD b code = 0 then c else codeD b code
/-- The document's state stands for what has been written, or for the first error. -/
def Rep (r : Except Int (List UInt8)) (b : List UInt8) (code : Int) : Prop :=
  match r with
  | .ok o => b = o ∧ code = 0 ∧ o.length ≤ 65536
  | .error c => c ≠ 0 ∧ (code = c ∨ (code = 0 ∧ c = 302 ∧ 65536 < b.length))
theorem rep_add {r : Except Int (List UInt8)} {b : List UInt8} {code : Int} (h : Rep r b code) (t : List UInt8) : Rep (andE r fun o => addE o t) (addB b code t) (codeD b code) := by
  cases r with
  | ok o =>
    obtain ⟨rfl, rfl, hl⟩ := h
    have hc : codeD b 0 = 0 := by rw [codeD, if_neg (by omega)]
    rw [hc, addB, if_pos hc]
    show Rep (addE b t) _ _
    unfold addE
    split
    · exact ⟨by decide, .inr ⟨rfl, rfl, by rw [List.length_append]; assumption⟩⟩
    · exact ⟨rfl, rfl, by rw [List.length_append]; omega⟩
  | error c =>
    obtain ⟨h0, h⟩ := h
    show Rep (.error c) _ _
    rcases h with rfl | ⟨rfl, rfl, hl⟩
    · have hc : codeD b code = code := by rw [codeD, if_neg (fun hh => h0 hh.1)]
      rw [hc]
      exact ⟨h0, .inl rfl⟩
    · have hc : codeD b 0 = 302 := by rw [codeD, if_pos ⟨rfl, hl⟩]
      rw [hc]
      exact ⟨by decide, .inl rfl⟩
theorem rep_fail {r : Except Int (List UInt8)} {b : List UInt8} {code : Int} (h : Rep r b code) {c : Int} (hc0 : c ≠ 0) : Rep (andE r fun _ => .error c) (addB b code []) (failC b code c) := by
  cases r with
  | ok o =>
    obtain ⟨rfl, rfl, hl⟩ := h
    have hc : codeD b 0 = 0 := by rw [codeD, if_neg (by omega)]
    rw [failC, if_pos hc]
    exact ⟨hc0, .inl rfl⟩
  | error e =>
    obtain ⟨h0, h⟩ := h
    show Rep (.error e) _ _
    rcases h with rfl | ⟨rfl, rfl, hl⟩
    · have hc : codeD b code = code := by rw [codeD, if_neg (fun hh => h0 hh.1)]
      rw [failC, hc, if_neg h0]
      exact ⟨h0, .inl rfl⟩
    · have hc : codeD b 0 = 302 := by rw [codeD, if_pos ⟨rfl, hl⟩]
      rw [failC, hc, if_neg (by decide)]
      exact ⟨by decide, .inl rfl⟩

/-- Blocks below g stay, and all blocks that hold neither bytes nor a printer. -/
structure Kp (g : Nat) (w w' : World) : Prop where
  below : Below g w w'
  typed : ∀ (q : Nat) (t : TypeId) (cs : List Value), t ≠ 5 → t ≠ 66 → Blk w q t cs → Blk w' q t cs
theorem Kp.refl (g : Nat) (w : World) : Kp g w w := ⟨Below.refl _ _, fun _ _ _ _ _ h => h⟩
theorem Kp.trans {g : Nat} {a b c : World} (h : Kp g a b) (k : Kp g b c) : Kp g a c := ⟨h.below.trans k.below, fun q t cs h1 h2 hb => k.typed q t cs h1 h2 (h.typed q t cs h1 h2 hb)⟩
theorem Kp.of_fut {g : Nat} {a b : World} (h : Fut a b) (hg : g ≤ a.heap.size) : Kp g a b := ⟨h.below.mono hg, fun _ _ _ _ _ hb => hb.fut⟩
theorem Kp.put {g : Nat} {a b : World} (h : Kp g a b) {cs : List Value} (hg : Blk b g 66 cs) (i : Nat) (u : Value) : Kp g a (b.setCell ⟨g, i, none⟩ u) :=
  ⟨h.below.setCell (p := ⟨g, i, none⟩) (by simp) _, fun q t cs h1 h2 hb => (h.typed q t cs h1 h2 hb).far (p := ⟨g, i, none⟩) ((h.typed q t cs h1 h2 hb).ne_ hg h2) _⟩
theorem Kp.of_grown {g n c : Nat} {a b : World} {A : Option Addr} {l : List (List Value)} (ho : Own a (g + 1) 5 1 (.slice A n c) l) (hg : a.grownBy b (Value.slice A n c).ownBlock) (hb : Below (g + 1) a b) : Kp g a b :=
  ⟨hb.mono (by omega), fun q t cs h1 _ hq => hq.grown hg (ho.ne_ hq (fun e => h1 e.symm))⟩

set_option maxRecDepth 100000 in
set_option maxHeartbeats 4000000 in
theorem radd_any (g : Nat) (b : List UInt8) (code : Int) (s : ByteArray) (w : World) (h : DocP w g b code) (hs : s.size ≤ 16711680) :
    Calls Tryd.prog 30 #[.pointer (some ⟨g, 0, none⟩), .string s] w fun e w' => e = .returned (.tuple #[]) ∧ DocP w' g (addB b code s.data.toList) (codeD b code) ∧ Kp g w w' := by
  obtain ⟨A, n, c, hb, ho, hn, hn2⟩ := h
  have HB := hide hb; have HO := hide ho; have HN := hide hn
  have hlb := hb.lt
  obtain ⟨q0, q1⟩ := At.z2 hb.at0
  have lq := hb.lt; have fq := hb.free
  have hss : s.data.toList.length = s.size := rfl
  clear hb ho hn
  by_cases hc : code = 0
  · subst hc
    by_cases hl : 65536 < n
    · have hcd : Hid (codeD b 0 = 302) := by show _ = _; rw [codeD, if_pos ⟨rfl, by rw [HN.out]; exact hl⟩]
      have had : Hid (addB b 0 s.data.toList = b) := by show _ = _; rw [addB, hcd.out, if_neg (by decide)]
      rw [hcd.out, had.out]
      have hli : (n : Int) > 65536 := by omega
      go_enter Tryd.func30, Tryd.ntmps30
      go_wp2_with fail
      go_end0
      exact ⟨rfl, ⟨A, n, c, HB.out.set_ 1 _, HO.out.set_other HB.out (by decide) 1 _, HN.out, hn2⟩, (Kp.refl _ _).put HB.out _ _⟩
    · have hcd : Hid (codeD b 0 = 0) := by show _ = _; rw [codeD, if_neg (by rw [HN.out]; omega)]
      have had : Hid (addB b 0 s.data.toList = b ++ s.data.toList) := by show _ = _; rw [addB, hcd.out, if_pos rfl]
      rw [hcd.out, had.out]
      have hli : ¬ (n : Int) > 65536 := by omega
      go_enter Tryd.func30, Tryd.ntmps30
      go_wp2_with (at_builtin; go_loud (refine wpList_append_str rfl (.tmp 29) (.tmp 30) rfl (base := g + 1) (l := b) rfl HO.out (s := s) rfl (by rw [HN.out]; omega) (by omega) (N := n + s.size) (by rw [HN.out]) ?_; intro A7 c7 w7 hown7 hgr7 hbel7; have HB7 := hide (HB.out.below hbel7 (by omega)); have HL7 := hide (Kp.of_grown HO.out hgr7 hbel7); have HO7 := hide hown7; clear hown7 hgr7 hbel7 q0 q1 lq fq; obtain ⟨q0, q1⟩ := At.z2 HB7.out.at0; have lq := HB7.out.lt; have fq := HB7.out.free))
      go_end0
      exact ⟨rfl, ⟨A7, n + s.size, c7, HB7.out.set_ 0 _, HO7.out.set_other HB7.out (by decide) 0 _, by rw [List.length_append, HN.out]; rfl, by omega⟩, HL7.out.put HB7.out _ _⟩
  · have hcd : Hid (codeD b code = code) := by show _ = _; rw [codeD, if_neg (fun hh => hc hh.1)]
    have had : Hid (addB b code s.data.toList = b) := by show _ = _; rw [addB, hcd.out, if_neg hc]
    rw [hcd.out, had.out]
    have hcb : (code == 0) = false := beq_eq_false_iff_ne.2 hc
    clear hc
    go_enter Tryd.func30, Tryd.ntmps30
    go_wp2_with fail
    go_end0
    exact ⟨rfl, ⟨A, n, c, HB.out, HO.out, HN.out, hn2⟩, Kp.refl _ _⟩

set_option maxRecDepth 100000 in
set_option maxHeartbeats 4000000 in
theorem rfail_any (g : Nat) (b : List UInt8) (code c : Int) (w : World) (h : DocP w g b code) :
    Calls Tryd.prog 48 #[.pointer (some ⟨g, 0, none⟩), .int .i64 c] w fun e w' => e = .returned (.tuple #[]) ∧ DocP w' g (addB b code []) (failC b code c) ∧ Kp g w w' := by
  have AD := hide (radd_any g b code ⟨#[]⟩ w h (by decide))
  have hlb := h.lt
  obtain ⟨k, hk⟩ : ∃ k, codeD b code = k := ⟨_, rfl⟩
  obtain ⟨b2, hb2⟩ : ∃ b2, addB b code [] = b2 := ⟨_, rfl⟩
  have AD : Hid (Calls Tryd.prog 30 #[.pointer (some ⟨g, 0, none⟩), .string ⟨#[]⟩] w fun e w' => e = .returned (.tuple #[]) ∧ DocP w' g b2 k ∧ Kp g w w') := by
    have := AD.out
    rw [hk, show (⟨#[]⟩ : ByteArray).data.toList = [] from rfl, hb2] at this
    exact this
  have HF : Hid (failC b code c = if k = 0 then c else k) := by show _ = _; rw [failC, hk]
  rw [HF.out, hb2]
  clear h hk hb2
  by_cases h0 : k = 0
  · subst h0
    rw [if_pos rfl]
    go_enter Tryd.func48, Tryd.ntmps48
    go_wp2_with (go_at_call 30; (with_reducible refine AD.out.mono ?_); rintro e w2 ⟨rfl, ⟨A2, n2, c2, hb2, ho2, hn2, hm2⟩, hbl2⟩; have HB2 := hide hb2; have HO2 := hide ho2; have HN2 := hide hn2; have HL2 := hide hbl2; obtain ⟨q0, q1⟩ := At.z2 hb2.at0; have lq := hb2.lt; have fq := hb2.free; clear hb2 ho2 hn2 hbl2)
    go_end0
    exact ⟨rfl, ⟨A2, n2, c2, HB2.out.set_ 1 _, HO2.out.set_other HB2.out (by decide) 1 _, HN2.out, hm2⟩, HL2.out.put HB2.out _ _⟩
  · rw [if_neg h0]
    have hcb : (k == 0) = false := beq_eq_false_iff_ne.2 h0
    clear h0
    go_enter Tryd.func48, Tryd.ntmps48
    go_wp2_with (go_at_call 30; (with_reducible refine AD.out.mono ?_); rintro e w2 ⟨rfl, ⟨A2, n2, c2, hb2, ho2, hn2, hm2⟩, hbl2⟩; have HB2 := hide hb2; have HO2 := hide ho2; have HN2 := hide hn2; have HL2 := hide hbl2; obtain ⟨q0, q1⟩ := At.z2 hb2.at0; have lq := hb2.lt; have fq := hb2.free; clear hb2 ho2 hn2 hbl2)
    go_end0
    exact ⟨rfl, ⟨A2, n2, c2, HB2.out, HO2.out, HN2.out, hm2⟩, HL2.out⟩
end Go.Proofs.YtoibfefalflooaaDoor
