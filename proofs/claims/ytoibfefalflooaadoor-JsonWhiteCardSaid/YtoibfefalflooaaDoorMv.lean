/-
  What is parsed is printed: plain.
-/
import Derived.Test.YtoibfefalflooaaDoorMu
namespace Go.Proofs.YtoibfefalflooaaDoor
open Go.RowKit

theorem Runes.app {a b : List UInt8} (h : Runes a) (k : Runes b) : Runes (a ++ b) := by
  induction h with
  | nil => exact k
  | cons hp _ ih => rw [List.append_assoc]; exact .cons hp ih
theorem first_runes {s : ByteArray} {l : List UInt8} (h : Runes l) : ∀ (f i : Nat), Suf s i l → firstN f s i = -1 := by
  induction h with
  | nil => intro f i hs; exact firstN_end (by have := hs.nil.2; omega)
  | @cons p q x n hp hq ih =>
    intro f i hs
    have hle := hs.le
    have hlen := hp.len
    have hpos := hp.pos
    rw [List.length_append] at hle
    cases f with
    | zero => rfl
    | succ f =>
      have hru := rune_suf hs
      rw [hp.any] at hru
      rw [firstN_step (by omega) (by rw [hru]; simp only; omega), hru]
      have := ih f (i + p.length) hs.app
      rw [show p.length = n.toNat by omega] at this
      exact this
theorem runes_valid {l : List UInt8} (h : Runes l) : validB (ofL l) = true := by
  unfold validB firstR
  rw [first_runes h _ _ (suf_of l)]
  decide
theorem nb_of {m : Nat} (h : m < 64) : nb (UInt8.ofNat (128 + m)).toNat = (m : Int) := by
  have : (UInt8.ofNat (128 + m)).toNat = 128 + m := by rw [UInt8.toNat_ofNat']; omega
  rw [nb, this, if_pos (by omega)]
  omega
theorem put_runes {r : Int} {l : List UInt8} (h : putR r = some l) : Runes l := by
  unfold putR at h
  split at h
  · cases h
  · rename_i h0
    split at h
    · rename_i h1
      injection h with h
      subst h
      have hc : (UInt8.ofNat r.toNat).toNat = r.toNat := by rw [UInt8.toNat_ofNat']; omega
      have : Run [UInt8.ofNat r.toNat] r 1 := by
        refine ⟨rfl, by decide, fun q => ?_, fun _ => ⟨_, rfl, by omega, by omega⟩, fun e => absurd rfl e⟩
        show runeC _ _ _ _ = _
        rw [hc, runeC, if_pos (by omega)]
        congr 1
        omega
      exact .cons (r := []) this .nil
    · rename_i h1
      split at h
      · rename_i h2
        injection h with h
        subst h
        have hc : (UInt8.ofNat (192 + r.toNat / 64)).toNat = 192 + r.toNat / 64 := by rw [UInt8.toNat_ofNat']; omega
        have ha := nb_of (m := r.toNat % 64) (by omega)
        have : Run [UInt8.ofNat (192 + r.toNat / 64), UInt8.ofNat (128 + r.toNat % 64)] r 2 := by
          refine ⟨rfl, by decide, fun q => ?_, fun e => absurd e (by decide), fun _ => ⟨fun y hy => ?_, by omega⟩⟩
          · show runeC _ (nb (UInt8.ofNat (128 + r.toNat % 64)).toNat) _ _ = _
            rw [hc, ha, runeC, if_neg (by omega), if_neg (by omega), if_pos (by omega)]
            congr 1
            omega
          · simp only [List.mem_cons, List.not_mem_nil, or_false] at hy
            rcases hy with rfl | rfl
            · omega
            · rw [UInt8.toNat_ofNat']; omega
        exact .cons (r := []) this .nil
      · rename_i h2
        split at h
        · rename_i h3
          injection h with h
          subst h
          have hc : (UInt8.ofNat (224 + r.toNat / 4096)).toNat = 224 + r.toNat / 4096 := by rw [UInt8.toNat_ofNat']; omega
          have ha := nb_of (m := r.toNat / 64 % 64) (by omega)
          have hb := nb_of (m := r.toNat % 64) (by omega)
          have : Run [UInt8.ofNat (224 + r.toNat / 4096), UInt8.ofNat (128 + r.toNat / 64 % 64), UInt8.ofNat (128 + r.toNat % 64)] r 3 := by
            refine ⟨rfl, by decide, fun q => ?_, fun e => absurd e (by decide), fun _ => ⟨fun y hy => ?_, by omega⟩⟩
            · show runeC _ (nb (UInt8.ofNat (128 + r.toNat / 64 % 64)).toNat) (nb (UInt8.ofNat (128 + r.toNat % 64)).toNat) _ = _
              rw [hc, ha, hb, runeC, if_neg (by omega), if_neg (by omega), if_neg (by omega), if_pos (by omega)]
              rw [if_pos (by omega)]
              congr 1
              omega
            · simp only [List.mem_cons, List.not_mem_nil, or_false] at hy
              rcases hy with rfl | rfl | rfl
              · omega
              · rw [UInt8.toNat_ofNat']; omega
              · rw [UInt8.toNat_ofNat']; omega
          exact .cons (r := []) this .nil
        · rename_i h3
          injection h with h
          subst h
          have hc : (UInt8.ofNat (240 + r.toNat / 262144)).toNat = 240 + r.toNat / 262144 := by rw [UInt8.toNat_ofNat']; omega
          have ha := nb_of (m := r.toNat / 4096 % 64) (by omega)
          have hb := nb_of (m := r.toNat / 64 % 64) (by omega)
          have hd := nb_of (m := r.toNat % 64) (by omega)
          have : Run [UInt8.ofNat (240 + r.toNat / 262144), UInt8.ofNat (128 + r.toNat / 4096 % 64), UInt8.ofNat (128 + r.toNat / 64 % 64), UInt8.ofNat (128 + r.toNat % 64)] r 4 := by
            refine ⟨rfl, by decide, fun q => ?_, fun e => absurd e (by decide), fun _ => ⟨fun y hy => ?_, by omega⟩⟩
            · show runeC _ (nb (UInt8.ofNat (128 + r.toNat / 4096 % 64)).toNat) (nb (UInt8.ofNat (128 + r.toNat / 64 % 64)).toNat) (nb (UInt8.ofNat (128 + r.toNat % 64)).toNat) = _
              rw [hc, ha, hb, hd, runeC, if_neg (by omega), if_neg (by omega), if_neg (by omega), if_neg (by omega), if_pos (by omega)]
              rw [if_pos (by omega)]
              congr 1
              omega
            · simp only [List.mem_cons, List.not_mem_nil, or_false] at hy
              rcases hy with rfl | rfl | rfl | rfl
              · omega
              · rw [UInt8.toNat_ofNat']; omega
              · rw [UInt8.toNat_ofNat']; omega
              · rw [UInt8.toNat_ofNat']; omega
          exact .cons (r := []) this .nil
theorem ascii_runes {c : UInt8} (h : c.toNat < 128) : Runes [c] := by
  have : Run [c] c.toNat 1 := by
    refine ⟨rfl, by decide, fun q => ?_, fun _ => ⟨_, rfl, h, rfl⟩, fun e => absurd rfl e⟩
    show runeC _ _ _ _ = _
    rw [runeC, if_pos (by omega)]
  exact .cons (r := []) this .nil
theorem uni_runes {s : ByteArray} {i j : Nat} {l : List UInt8} (h : uniP s i = some (l, j)) : Runes l := by
  unfold uniP at h
  split at h
  · cases h
  · split at h
    · split at h
      · split at h
        · cases h
        · split at h
          · cases h
          · rw [Option.map_eq_some_iff] at h
            obtain ⟨a, ha, hb⟩ := h
            injection hb with h1 h2
            subst h1
            exact put_runes ha
      · cases h
    · rw [Option.map_eq_some_iff] at h
      obtain ⟨a, ha, hb⟩ := h
      injection hb with h1 h2
      subst h1
      exact put_runes ha
theorem esc_runes {s : ByteArray} {i j : Nat} {l : List UInt8} (h : escP s i = some (l, j)) : Runes l := by
  unfold escP at h
  split at h
  · rename_i hc
    injection h with h; injection h with h1 h2
    subst h1
    exact ascii_runes (by rw [UInt8.toNat_ofNat']; omega)
  · repeat' split at h
    all_goals first
      | exact uni_runes h
      | (cases h; done)
      | (injection h with h; injection h with h1 h2; subst h1; exact ascii_runes (by decide))
theorem suf_at (s : ByteArray) {i : Nat} (h : i ≤ s.size) : Suf s i (s.data.toList.drop i) := ⟨rfl, h⟩
theorem textN_runes {s : ByteArray} : ∀ (f i : Nat) (out : List UInt8) {l : List UInt8} {j : Nat}, textN s f i out = some (l, j) → Runes out → Runes l
  | 0, i, out, l, j, h, _ => by rw [textN] at h; cases h
  | f + 1, i, out, l, j, h, ho => by
    by_cases h1 : bA s i = 34
    · rw [textN_quote h1] at h
      injection h with h; injection h with h1 h2
      subst h1; exact ho
    · by_cases h2 : bA s i = 92
      · rw [textN_stroke h2] at h
        cases he : escP s (i + 1) with
        | none => rw [he] at h; cases h
        | some p =>
          obtain ⟨m, k⟩ := p
          rw [he] at h
          exact textN_runes f k _ h (ho.app (esc_runes he))
      · by_cases h3 : (runeT s i).2 = 0 ∨ (runeT s i).1 < 32
        · rw [textN_bad ⟨h1, h2⟩ h3] at h; cases h
        · rw [textN_rune ⟨h1, h2⟩ h3] at h
          have hz : (runeT s i).2 ≠ 0 := fun e => h3 (.inl e)
          have hi : i ≤ s.size := by
            by_cases hi : i < s.size
            · omega
            · rw [runeT, dif_neg hi] at hz; exact absurd rfl hz
          have hs := suf_at s hi
          rw [rune_suf hs] at hz h
          obtain ⟨p, r, e, hr⟩ := run_of (x := (runeL (s.data.toList.drop i)).1) (n := (runeL (s.data.toList.drop i)).2) rfl hz
          have hlen := hr.len
          have hd : (s.data.toList.drop i).take ((runeL (s.data.toList.drop i)).2).toNat = p := by
            conv => lhs; arg 2; rw [e]
            rw [← hlen, Int.toNat_natCast, List.take_left']
            rfl
          rw [hd] at h
          exact textN_runes f _ _ h (ho.app (by have := Runes.cons hr .nil; rw [List.append_nil] at this; exact this))
theorem text_valid {s : ByteArray} {i j : Nat} {t : ByteArray} (h : textP s i = some (t, j)) : validB t = true := by
  unfold textP at h
  split at h
  · split at h
    · cases h
    · rename_i l k hl
      injection h with h; injection h with h1 h2
      subst h1
      exact runes_valid (textN_runes _ _ _ hl .nil)
  · cases h
/-- It is written, or it is too long. -/
def Okay (r : Except Int (List UInt8)) : Prop := (∃ o, r = .ok o) ∨ r = .error 302
theorem okay_add (o t : List UInt8) : Okay (addE o t) := by
  unfold addE
  split
  · exact .inr rfl
  · exact .inl ⟨_, rfl⟩
theorem okay_and {r : Except Int (List UInt8)} {f : List UInt8 → Except Int (List UInt8)} (h : Okay r) (k : ∀ o, Okay (f o)) : Okay (andE r f) := by
  rcases h with ⟨o, rfl⟩ | rfl
  · exact k o
  · exact .inr rfl
theorem okay_text {t : ByteArray} (h : validB t = true) (o : List UInt8) : Okay (textW t o) := by rw [textW_ok h]; exact okay_add _ _
/-- A value that is written back as it was. -/
def PJ (j : J) (d : Nat) : Prop := norm j = j ∧ ∀ out, Okay (prV j d out)
theorem pj_list : ∀ {l : List J} {d : Nat} {obj : Bool} {ks : List ByteArray} {fst : Bool} {out : List UInt8}, (∀ x ∈ l, PJ x d) → (obj = true → ks.length = l.length ∧ ∀ k ∈ ks, validB k = true) → Okay (prL l d obj ks fst out)
  | [], d, obj, ks, fst, out, _, _ => by rw [prL]; exact .inl ⟨_, rfl⟩
  | j :: r, d, obj, ks, fst, out, h, hk => by
    rw [prL_cons]
    refine okay_and ?_ fun o1 => okay_and ?_ fun o2 => okay_and ((h j (by simp)).2 o2) fun o3 => pj_list (fun x hx => h x (by simp [hx])) (fun e => ?_)
    · cases fst
      · exact okay_add _ _
      · exact .inl ⟨_, rfl⟩
    · cases obj
      · exact .inl ⟨_, rfl⟩
      · obtain ⟨h1, h2⟩ := hk rfl
        cases ks with
        | nil => simp at h1
        | cons k ks => exact okay_and (okay_text (h2 k (by simp)) _) fun o => okay_add _ _
    · obtain ⟨h1, h2⟩ := hk e
      exact ⟨by rw [List.length_tail, h1]; simp, fun k hkk => h2 k (List.mem_of_mem_tail hkk)⟩
theorem keysF_snoc : ∀ (ks seen : List ByteArray) (k : ByteArray), keysF seen (ks ++ [k]) = (keysF seen ks && (!(seen ++ ks).contains k && validB k))
  | [], seen, k => by rw [List.nil_append, keysF_step, List.append_nil, keysF, keysF]; simp
  | a :: r, seen, k => by rw [List.cons_append, keysF_step, keysF_step, keysF_snoc r, List.append_assoc, List.cons_append, List.nil_append, Bool.and_assoc, Bool.and_assoc, Bool.and_assoc]
theorem norms_id : ∀ {l : List J} {d : Nat}, (∀ x ∈ l, PJ x d) → norms l = l
  | [], _, _ => by rw [norms]
  | j :: r, d, h => by rw [norms, (h j (by simp)).1, norms_id (fun x hx => h x (by simp [hx]))]
theorem pj_leaf {s : ByteArray} {i k : Nat} {j : J} (d : Nat) (h : leafP s i = .ok (j, k)) : PJ j d := by
  unfold leafP at h
  split at h
  · split at h
    · injection h with h; injection h with h1 h2; rw [← h1]
      exact ⟨rfl, fun out => by unfold J.zero; rw [prV, if_pos rfl]; exact okay_add _ _⟩
    · cases h
  · split at h
    · split at h
      · injection h with h; injection h with h1 h2; rw [← h1]
        exact ⟨rfl, fun out => by rw [prV, if_neg (by decide), if_pos rfl]; exact okay_add _ _⟩
      · cases h
    · split at h
      · split at h
        · injection h with h; injection h with h1 h2; rw [← h1]
          exact ⟨rfl, fun out => by rw [prV, if_neg (by decide), if_pos rfl]; exact okay_add _ _⟩
        · cases h
      · split at h
        · split at h
          · cases h
          · rename_i t k2 ht
            injection h with h; injection h with h1 h2
            rw [← h1]
            exact ⟨rfl, fun out => by rw [prV, if_neg (by decide), if_neg (by decide), if_neg (by decide), if_pos rfl]; exact okay_text (text_valid ht) _⟩
        · split at h
          · cases h
          · injection h with h; injection h with h1 h2
            rw [← h1]
            exact ⟨rfl, fun out => by rw [prV, if_neg (by decide), if_neg (by decide), if_pos rfl]; exact okay_add _ _⟩
theorem pj_elems {s : ByteArray} {d : Nat} {val : Nat → Except Int (J × Nat)} (hv : ∀ i j k, val i = .ok (j, k) → PJ j d) (obj : Bool) : ∀ (f i : Nat) (fst : Bool) (l : List J) (ks : List ByteArray) {l2 : List J} {ks2 : List ByteArray} {k : Nat}, elemsP val s obj f i fst l ks = .ok (l2, ks2, k) →
    (∀ x ∈ l, PJ x d) → (obj = true → ks.length = l.length ∧ keysF [] ks = true ∧ ∀ q ∈ ks, validB q = true) → (obj = false → ks = []) → (∀ x ∈ l2, PJ x d) ∧ (obj = true → ks2.length = l2.length ∧ keysF [] ks2 = true ∧ ∀ q ∈ ks2, validB q = true) ∧ (obj = false → ks2 = [])
  | 0, i, fst, l, ks, l2, ks2, k, h => by rw [elemsP] at h; cases h
  | f + 1, i, fst, l, ks, l2, ks2, k, h => fun hl hk hn => by
    by_cases he : bA s i = if obj then 125 else 93
    · rw [el_end he] at h
      injection h with h; injection h with h1 h2; injection h2 with h2 h3
      rw [← h1, ← h2]
      exact ⟨hl, hk, hn⟩
    by_cases hq : fst = false ∧ bA s i ≠ 44
    · obtain ⟨rfl, hq⟩ := hq
      rw [el_comma he hq] at h
      cases h
    have hmore : ∀ j, PJ j d → ∀ x ∈ l ++ [j], PJ x d := fun j hj x hx => by
      rcases List.mem_append.1 hx with hx | hx
      · exact hl x hx
      · rw [List.mem_singleton] at hx; subst hx; exact hj
    cases obj with
    | false =>
      rw [el_list he hq] at h
      generalize (if fst = true then i else whiteE s (i + 1)) = i0 at h
      cases hd : val i0 with
      | error e => rw [hd] at h; cases h
      | ok p =>
        obtain ⟨j, i4⟩ := p
        rw [hd] at h
        exact pj_elems hv false f _ _ _ _ h (hmore j (hv _ _ _ hd)) (by intro e; cases e) hn
    | true =>
      rw [el_obj he hq] at h
      generalize (if fst = true then i else whiteE s (i + 1)) = i0 at h
      cases ht : textP s i0 with
      | none => rw [ht] at h; cases h
      | some p =>
        obtain ⟨q, i1⟩ := p
        rw [ht] at h
        simp only [] at h
        split at h
        · cases h
        · rename_i hqc
          split at h
          · cases h
          · cases hd : val (whiteE s (whiteE s i1 + 1)) with
            | error e => rw [hd] at h; cases h
            | ok p =>
              obtain ⟨j, i4⟩ := p
              rw [hd] at h
              obtain ⟨k1, k2, k3⟩ := hk rfl
              have hvq := text_valid ht
              refine pj_elems hv true f _ _ _ _ h (hmore j (hv _ _ _ hd)) (fun _ => ⟨by rw [List.length_append, List.length_append, k1]; rfl, ?_, fun x hx => ?_⟩) (by intro e; cases e)
              · rw [keysF_snoc, k2, hvq, List.nil_append]
                simpa using hqc
              · rcases List.mem_append.1 hx with hx | hx
                · exact k3 x hx
                · rw [List.mem_singleton] at hx; subst hx; exact hvq
theorem pj_val (s : ByteArray) : ∀ (d i : Nat) (j : J) (k : Nat), valP s d i = .ok (j, k) → PJ j d
  | 0, i, j, k, h => by
    rw [valP] at h
    split at h
    · cases h
    · exact pj_leaf 0 h
  | d + 1, i, j, k, h => by
    rw [valP] at h
    split at h
    · split at h
      · cases h
      · rename_i l2 ks2 k2 he
        injection h with h; injection h with h1 h2
        obtain ⟨r1, r2, r3⟩ := pj_elems (pj_val s d) _ _ _ _ _ _ he (fun x hx => by cases hx) (fun _ => ⟨rfl, by rw [keysF], fun x hx => by cases hx⟩) (fun _ => rfl)
        rw [← h1]
        by_cases hb : bA s i = 123
        · rw [if_pos hb]
          rw [decide_eq_true hb] at r2
          obtain ⟨q1, q2, q3⟩ := r2 rfl
          refine ⟨by rw [norm, norms_id r1]; rfl, fun out => ?_⟩
          rw [prV, if_neg (by decide), if_neg (by decide), if_neg (by decide), if_neg (by decide), if_neg (by decide), if_pos rfl, if_neg (by omega), if_pos ⟨q1, q2⟩]
          exact okay_and (okay_add _ _) fun o => okay_and (pj_list r1 (fun _ => ⟨q1, q3⟩)) fun o => okay_add _ _
        · rw [if_neg hb]
          rw [decide_eq_false hb] at r3
          have hks := r3 rfl
          subst hks
          refine ⟨by rw [norm, norms_id r1]; rfl, fun out => ?_⟩
          rw [prV, if_neg (by decide), if_neg (by decide), if_neg (by decide), if_neg (by decide), if_pos rfl, if_neg (by omega)]
          exact okay_and (okay_add _ _) fun o => okay_and (pj_list r1 (by intro e; cases e)) fun o => okay_add _ _
    · exact pj_leaf _ h
end Go.Proofs.YtoibfefalflooaaDoor
