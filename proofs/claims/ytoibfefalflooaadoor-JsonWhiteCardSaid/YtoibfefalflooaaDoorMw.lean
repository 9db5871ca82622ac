/-
  There and back: plain.
-/
import Derived.Test.YtoibfefalflooaaDoorMv
namespace Go.Proofs.YtoibfefalflooaaDoor
open Go.RowKit

theorem norms_len : ∀ l : List J, (norms l).length = l.length
  | [] => by rw [norms]
  | j :: r => by rw [norms, List.length_cons, List.length_cons, norms_len r]
theorem andE_ok {o : List UInt8} {f : List UInt8 → Except Int (List UInt8)} : andE (.ok o) f = f o := rfl
theorem prV4 {b : Bool} {n : Int} {s : ByteArray} {l : List J} {ks : List ByteArray} {d : Nat} {out : List UInt8} : prV (.mk 4 b n s l ks) d out = if d = 0 then .error 301 else andE (addE out [91]) fun o => andE (prL l (d - 1) false ks true o) fun o => addE o [93] := by
  rw [prV, if_neg (by decide), if_neg (by decide), if_neg (by decide), if_neg (by decide), if_pos rfl]
theorem prV5 {b : Bool} {n : Int} {s : ByteArray} {l : List J} {ks : List ByteArray} {d : Nat} {out : List UInt8} : prV (.mk 5 b n s l ks) d out = if d = 0 then .error 301 else if ks.length = l.length ∧ keysF [] ks = true then andE (addE out [123]) fun o => andE (prL l (d - 1) true ks true o) fun o => addE o [125] else .error 300 := by
  rw [prV, if_neg (by decide), if_neg (by decide), if_neg (by decide), if_neg (by decide), if_neg (by decide), if_pos rfl]
mutual
theorem prV_norm : ∀ (j : J) (d : Nat) (out : List UInt8), (∃ o, prV j d out = .ok o) → prV (norm j) d out = prV j d out
  | .mk k b n s l ks, d, out, h => by
    rw [norm]
    by_cases h0 : k = 0
    · subst h0; rfl
    by_cases h1 : k = 1
    · subst h1; rfl
    by_cases h2 : k = 2
    · subst h2; rfl
    by_cases h3 : k = 3
    · subst h3; rfl
    by_cases h4 : k = 4
    · subst h4
      rw [if_neg (by decide), if_neg (by decide), if_neg (by decide), if_pos rfl]
      rw [prV4, prV4]
      rw [prV4] at h
      obtain ⟨o, h⟩ := h
      split at h
      · cases h
      · rename_i hd
        rw [if_neg hd, if_neg hd]
        obtain ⟨o1, e1, h⟩ := andE_inv h
        obtain ⟨o2, e2, h⟩ := andE_inv h
        rw [e1]
        show andE (prL (norms l) (d - 1) false [] true o1) _ = andE (prL l (d - 1) false ks true o1) _
        rw [prL_norm l (d - 1) false ks [] true o1 ⟨o2, e2⟩ (by intro e; cases e)]
    by_cases h5 : k = 5
    · subst h5
      rw [if_neg (by decide), if_neg (by decide), if_neg (by decide), if_neg (by decide), if_pos rfl]
      rw [prV5, prV5]
      rw [prV5] at h
      obtain ⟨o, h⟩ := h
      split at h
      · cases h
      · rename_i hd
        rw [if_neg hd, if_neg hd]
        split at h
        · rename_i hk
          rw [if_pos hk, if_pos ⟨by rw [norms_len]; exact hk.1, hk.2⟩]
          obtain ⟨o1, e1, h⟩ := andE_inv h
          obtain ⟨o2, e2, h⟩ := andE_inv h
          rw [e1]
          show andE (prL (norms l) (d - 1) true ks true o1) _ = andE (prL l (d - 1) true ks true o1) _
          rw [prL_norm l (d - 1) true ks ks true o1 ⟨o2, e2⟩ (fun _ => rfl)]
        · cases h
    rw [prV, if_neg h0, if_neg h1, if_neg h2, if_neg h3, if_neg h4, if_neg h5] at h
    obtain ⟨o, h⟩ := h
    cases h
theorem prL_norm : ∀ (l : List J) (d : Nat) (obj : Bool) (ks ks2 : List ByteArray) (fst : Bool) (out : List UInt8), (∃ o, prL l d obj ks fst out = .ok o) → (obj = true → ks2 = ks) → prL (norms l) d obj ks2 fst out = prL l d obj ks fst out
  | [], d, obj, ks, ks2, fst, out, _, _ => by rw [norms, prL, prL]
  | j :: r, d, obj, ks, ks2, fst, out, h, hk => by
    obtain ⟨o, h⟩ := h
    rw [norms, prL_cons, prL_cons]
    rw [prL_cons] at h
    obtain ⟨o1, e1, h⟩ := andE_inv h
    obtain ⟨o2, e2, h⟩ := andE_inv h
    obtain ⟨o3, e3, h⟩ := andE_inv h
    have e22 : (if obj = true then andE (textW (ks2.headD ⟨#[]⟩) o1) fun o => addE o [58] else .ok o1) = .ok o2 := by
      cases obj
      · exact e2
      · rw [hk rfl]; exact e2
    rw [e1, andE_ok, andE_ok, e2, e22, andE_ok, andE_ok, prV_norm j d o2 ⟨o3, e3⟩, e3, andE_ok, andE_ok]
    exact prL_norm r d obj ks.tail ks2.tail false o3 ⟨o, h⟩ (fun e => by rw [hk e])
end
theorem prV_len {j : J} {d : Nat} {out o : List UInt8} (h : prV j d out = .ok o) : o.length ≤ 65536 := by
  cases j with
  | mk k b n s l ks =>
    have tw : ∀ (t : ByteArray) (a q : List UInt8), textW t a = .ok q → q.length ≤ 65536 := fun t a q h => by
      unfold textW at h
      split at h
      · exact (addE_inv h).2
      · cases h
    rw [prV] at h
    split at h
    · exact (addE_inv h).2
    · split at h
      · exact (addE_inv h).2
      · split at h
        · exact (addE_inv h).2
        · split at h
          · exact tw _ _ _ h
          · split at h
            · split at h
              · cases h
              · obtain ⟨o1, _, h⟩ := andE_inv h
                obtain ⟨o2, _, h⟩ := andE_inv h
                exact (addE_inv h).2
            · split at h
              · split at h
                · cases h
                · split at h
                  · obtain ⟨o1, _, h⟩ := andE_inv h
                    obtain ⟨o2, _, h⟩ := andE_inv h
                    exact (addE_inv h).2
                  · cases h
              · cases h
theorem print_ok_inv {j : J} (h : (printP j).2 = 0) : ∃ o, prV j 16 [] = .ok o ∧ printP j = (ofL o, 0) := by
  unfold printP at h ⊢
  cases hp : prV j 16 [] with
  | error e =>
    rw [hp] at h
    have h : e = 0 := h
    have := prV_err _ _ _ _ hp
    omega
  | ok o => exact ⟨o, rfl, rfl⟩
/-- What is printed is parsed to what it was, and printed alike. -/
theorem back_print {j : J} (hf : FineJ j) (h : (printP j).2 = 0) : parseP (printP j).1 = (norm j, 0) ∧ printP (norm j) = printP j := by
  obtain ⟨o, hp, he⟩ := print_ok_inv h
  obtain ⟨tx, e, hv⟩ := val_back j 16 [] o hf hp
  rw [List.nil_append] at e
  subst e
  refine ⟨?_, ?_⟩
  · rw [he]
    show parseP (ofL o) = _
    have hl := prV_len hp
    have hs : Suf (ofL o) 0 (o ++ []) := by rw [List.append_nil]; exact suf_of o
    rw [parse_at hl hv.hw, hv.back (ofL o) 0 [] hs rfl]
    have hn := hs.app
    simp only [if_pos ((white_hd hn rfl).trans hn.nil.2)]
  · unfold printP
    rw [prV_norm j 16 [] ⟨o, hp⟩]
theorem parse_zero {s : ByteArray} (h : (parseP s).2 ≠ 0) : (parseP s).1 = J.zero := by
  unfold parseP at h ⊢
  split
  · rfl
  · rename_i hs
    rw [if_neg hs] at h
    cases hv : valP s 16 (whiteE s 0) with
    | error e => rfl
    | ok p =>
      obtain ⟨j, i⟩ := p
      rw [hv] at h
      simp only at h ⊢
      split
      · rename_i he; rw [if_pos he] at h; exact absurd rfl h
      · rfl
/-- What is parsed is printed, unless it is too long, and parsed to what it was. -/
theorem back_parse (s : ByteArray) : (printP (parseP s).1).2 = 302 ∨ ((printP (parseP s).1).2 = 0 ∧ parseP (printP (parseP s).1).1 = ((parseP s).1, 0)) := by
  have hpj : PJ (parseP s).1 16 := by
    unfold parseP
    split
    · exact ⟨rfl, fun out => by unfold J.zero; rw [prV, if_pos rfl]; exact okay_add _ _⟩
    · rename_i hs
      cases hv : valP s 16 (whiteE s 0) with
      | error e => exact ⟨rfl, fun out => by unfold J.zero; rw [prV, if_pos rfl]; exact okay_add _ _⟩
      | ok p =>
        obtain ⟨j, i⟩ := p
        simp only
        split
        · exact pj_val s _ _ _ _ hv
        · exact ⟨rfl, fun out => by unfold J.zero; rw [prV, if_pos rfl]; exact okay_add _ _⟩
  have hf := parse_fine s
  generalize (parseP s).1 = k at hpj hf
  rcases hpj.2 [] with ⟨o, ho⟩ | ho
  · right
    have h0 : (printP k).2 = 0 := by unfold printP; rw [ho]
    have hb := back_print hf h0
    rw [hpj.1] at hb
    exact ⟨h0, hb.1⟩
  · left
    unfold printP
    rw [ho]
end Go.Proofs.YtoibfefalflooaaDoor
