/-
  White between: plain.
-/
import Derived.Test.YtoibfefalflooaaDoorMw
namespace Go.Proofs.YtoibfefalflooaaDoor
open Go.RowKit

/-- The signs of lists and objects. -/
def isS (c : Nat) : Bool := c == 44 || c == 58 || c == 91 || c == 93 || c == 123 || c == 125
/-- White around each sign that is not within a text. -/
def insW (om : Nat → UInt8 × UInt8) : Nat → Bool → Bool → List UInt8 → List UInt8
  | _, _, _, [] => []
  | i, wi, sk, c :: r =>
    if wi = false ∧ isS c.toNat = true then (om i).1 :: c :: (om i).2 :: insW om (i + 1) wi sk r
    else c :: (if wi = true ∧ sk = false ∧ c.toNat = 92 then insW om (i + 1) wi true r
      else insW om (i + 1) (if c.toNat = 34 ∧ sk = false then !wi else wi) false r)
section
variable {om : Nat → UInt8 × UInt8}
theorem ins_sign {i : Nat} {sk : Bool} {c : UInt8} {r : List UInt8} (h : isS c.toNat = true) : insW om i false sk (c :: r) = (om i).1 :: c :: (om i).2 :: insW om (i + 1) false sk r := by rw [insW, if_pos ⟨rfl, h⟩]
theorem ins_out {i : Nat} {c : UInt8} {r : List UInt8} (h : isS c.toNat = false) (h2 : c.toNat ≠ 34) : insW om i false false (c :: r) = c :: insW om (i + 1) false false r := by
  rw [insW, if_neg (by rw [h]; simp), if_neg (by simp), if_neg (fun hh => h2 hh.1)]
theorem ins_open {i : Nat} {r : List UInt8} : insW om i false false (34 :: r) = 34 :: insW om (i + 1) true false r := by
  rw [insW, if_neg (by decide), if_neg (by simp), if_pos ⟨rfl, rfl⟩]
  rfl
theorem ins_in {i : Nat} {c : UInt8} {r : List UInt8} (h : c.toNat ≠ 92) (h2 : c.toNat ≠ 34) : insW om i true false (c :: r) = c :: insW om (i + 1) true false r := by
  rw [insW, if_neg (by simp), if_neg (fun hh => h hh.2.2), if_neg (fun hh => h2 hh.1)]
theorem ins_skip {i : Nat} {c : UInt8} {r : List UInt8} : insW om i true true (c :: r) = c :: insW om (i + 1) true false r := by
  rw [insW, if_neg (by simp), if_neg (by simp), if_neg (by simp)]
theorem ins_stroke {i : Nat} {c : UInt8} {r : List UInt8} (h : c.toNat = 92) : insW om i true false (c :: r) = c :: insW om (i + 1) true true r := by
  rw [insW, if_neg (by simp), if_pos ⟨rfl, rfl, h⟩]
theorem ins_shut {i : Nat} {r : List UInt8} : insW om i true false (34 :: r) = 34 :: insW om (i + 1) false false r := by
  rw [insW, if_neg (by simp), if_neg (by simp), if_pos ⟨rfl, rfl⟩]
  rfl
theorem ins_plain : ∀ {a : List UInt8} {i : Nat} {b : List UInt8}, (∀ c ∈ a, isS c.toNat = false ∧ c.toNat ≠ 34) → insW om i false false (a ++ b) = a ++ insW om (i + a.length) false false b
  | [], i, b, _ => rfl
  | c :: r, i, b, h => by
    have hc := h c (by simp)
    rw [List.cons_append, ins_out hc.1 hc.2, ins_plain (fun x hx => h x (by simp [hx])), List.length_cons, show i + 1 + r.length = i + (r.length + 1) by omega]
    rfl
theorem hexD_plain : ∀ n : Fin 16, (hexD n.val).toNat ≠ 92 ∧ (hexD n.val).toNat ≠ 34 := by decide
theorem ins_qB {c : UInt8} {i : Nat} {b : List UInt8} : insW om i true false (qB c ++ b) = qB c ++ insW om (i + (qB c).length) true false b := by
  have two : ∀ (x : UInt8), insW om i true false ([92, x] ++ b) = [92, x] ++ insW om (i + [92, x].length) true false b := fun x => by
    show insW om i true false (92 :: (x :: b)) = _
    rw [ins_stroke rfl, ins_skip]
    rfl
  unfold qB
  split
  · exact two c
  · split
    · exact two 98
    · split
      · exact two 102
      · split
        · exact two 110
        · split
          · exact two 114
          · split
            · exact two 116
            · split
              · rename_i h1 h2 h3 h4 h5 h6 h7
                have hc := c.toNat_lt
                show insW om i true false (92 :: (117 :: (48 :: (48 :: (UInt8.ofNat (48 + c.toNat / 16) :: (hexD (c.toNat % 16) :: b)))))) = _
                have hx : (UInt8.ofNat (48 + c.toNat / 16)).toNat = 48 + c.toNat / 16 := by rw [UInt8.toNat_ofNat']; omega
                have hy := hexD_plain ⟨c.toNat % 16, by omega⟩
                rw [ins_stroke rfl, ins_skip, ins_in (by decide) (by decide), ins_in (by decide) (by decide), ins_in (by omega) (by omega), ins_in hy.1 hy.2]
                rfl
              · rename_i h1 h2 h3 h4 h5 h6 h7
                show insW om i true false (c :: b) = _
                rw [ins_in (by omega) (by omega)]
                rfl
theorem ins_qBs : ∀ {l : List UInt8} {i : Nat} {b : List UInt8}, insW om i true false (qBs l ++ b) = qBs l ++ insW om (i + (qBs l).length) true false b
  | [], i, b => rfl
  | c :: r, i, b => by
    rw [qBs, List.append_assoc, ins_qB, ins_qBs, List.length_append, List.append_assoc, Nat.add_assoc]
theorem ins_quote {t : ByteArray} {i : Nat} {b : List UInt8} : insW om i false false (quoteL t ++ b) = quoteL t ++ insW om (i + (quoteL t).length) false false b := by
  have e : quoteL t ++ b = 34 :: (qBs t.data.toList ++ (34 :: b)) := by
    rw [quoteL]
    show 34 :: ((qBs t.data.toList ++ [34]) ++ b) = _
    rw [List.append_assoc]; rfl
  rw [e, ins_open, ins_qBs, ins_shut]
  have hl : (quoteL t).length = (qBs t.data.toList).length + 2 := by rw [quoteL, List.length_cons, List.length_append]; rfl
  rw [hl, quoteL]
  show 34 :: (qBs t.data.toList ++ (34 :: insW om _ false false b)) = 34 :: ((qBs t.data.toList ++ [34]) ++ insW om _ false false b)
  rw [List.append_assoc, show i + 1 + (qBs t.data.toList).length + 1 = i + ((qBs t.data.toList).length + 2) by omega]
  rfl
end
def Whites (om : Nat → UInt8 × UInt8) : Prop := ∀ i, isW (om i).1.toNat = true ∧ isW (om i).2.toNat = true
theorem white_cons {s : ByteArray} {p : Nat} {c : UInt8} {l : List UInt8} (h : Suf s p (c :: l)) (hc : isW c.toNat = true) : whiteE s p = whiteE s (p + 1) := white_yes (by rw [h.head.1]; exact hc)
theorem w_not {c : Nat} (h : isW c = true) : isD c = false ∧ c ≠ 93 ∧ c ≠ 125 ∧ c ≠ 44 := by
  simp only [isW, Bool.or_eq_true, beq_iff_eq] at h
  rcases h with ((h | h) | h) | h <;> (subst h; decide)
/-- A value's text with white around signs comes back. -/
def WV (j : J) (d : Nat) (tx : List UInt8) : Prop := 0 < tx.length ∧ ∀ (om : Nat → UInt8 × UInt8), Whites om → ∀ i : Nat, ∃ tx' : List UInt8, (∀ b, insW om i false false (tx ++ b) = tx' ++ insW om (i + tx.length) false false b) ∧
  ∀ (s : ByteArray) (p : Nat) (r : List UInt8), Suf s p (tx' ++ r) → isD (hd0 r) = false → (bA s (whiteE s p) ≠ 93 ∧ bA s (whiteE s p) ≠ 125) ∧ ∃ q, valP s d (whiteE s p) = .ok (norm j, q) ∧ whiteE s q = whiteE s (p + tx'.length)
theorem wv_leaf {j : J} {d : Nat} {tx : List UInt8} (h : VB j d tx) (hp : ∀ (om : Nat → UInt8 × UInt8) (i : Nat) (b : List UInt8), insW om i false false (tx ++ b) = tx ++ insW om (i + tx.length) false false b) : WV j d tx :=
  ⟨h.pos, fun om _ i => ⟨tx, hp om i, fun s p r hs hr => by
    have hb := hs.hd
    rw [hd0_lt h.pos] at hb
    have hw := white_hd hs (by rw [hd0_lt h.pos]; exact h.hw)
    rw [hw, hb]
    exact ⟨⟨h.h93, h.h125⟩, p + tx.length, h.back s p r hs hr, rfl⟩⟩⟩
theorem dig_plain {l : List UInt8} (h : Digs l) : ∀ c ∈ l, isS c.toNat = false ∧ c.toNat ≠ 34 := fun c hc => by
  have := h c hc
  refine ⟨?_, by omega⟩
  simp only [isS, Bool.or_eq_false_iff, beq_eq_false_iff_ne]
  omega
theorem itoa_plain (n : Int) : ∀ c ∈ Go.Lib.itoa n, isS c.toNat = false ∧ c.toNat ≠ 34 := fun c hc => by
  unfold Go.Lib.itoa at hc
  split at hc
  · rcases List.mem_cons.1 hc with rfl | hc
    · decide
    · exact dig_plain (dec_digs _) c hc
  · exact dig_plain (dec_digs _) c hc
def LW (l : List J) (d : Nat) (obj : Bool) (ks : List ByteArray) (fst : Bool) (tx : List UInt8) : Prop := ∀ (om : Nat → UInt8 × UInt8), Whites om → ∀ i : Nat, ∃ tx' : List UInt8, (∀ b, insW om i false false (tx ++ b) = tx' ++ insW om (i + tx.length) false false b) ∧ (fst = false → tx' = [] ∨ isW (hd0 tx') = true) ∧
  ∀ (s : ByteArray) (p : Nat) (r : List UInt8) (f : Nat) (L : List J) (K : List ByteArray) (c : UInt8), isW c.toNat = true → Suf s p (tx' ++ c :: (if obj then 125 else 93) :: r) → tx.length < f → (obj = true → ks.length = l.length ∧ keysF K ks = true) →
    elemsP (valP s d) s obj f (whiteE s p) fst L K = .ok (L ++ norms l, if obj then K ++ ks else K, p + tx'.length + 2)
theorem lw_nil (d : Nat) (obj : Bool) (ks : List ByteArray) (fst : Bool) : LW [] d obj ks fst [] := by
  intro om _ i
  refine ⟨[], fun b => rfl, fun _ => .inl rfl, fun s p r f L K c hc h hf hk => ?_⟩
  obtain ⟨g, rfl⟩ : ∃ g, f = g + 1 := ⟨f - 1, by simp at hf; omega⟩
  have h1 := (Suf.head h).2
  rw [white_cons h hc, norms, List.append_nil]
  cases obj with
  | true =>
    have hks : ks = [] := List.length_eq_zero_iff.1 (hk rfl).1
    subst hks
    have hb : bA s (p + 1) = 125 := (Suf.head h1).1
    rw [white_hd h1 (by rfl), el_end (by rw [hb]; rfl), if_pos rfl, List.append_nil]
    rfl
  | false =>
    have hb : bA s (p + 1) = 93 := (Suf.head h1).1
    rw [white_hd h1 (by rfl), el_end (by rw [hb]; rfl)]
    rfl
theorem lw_cons {j : J} {l : List J} {d : Nat} {obj : Bool} {ks : List ByteArray} {fst : Bool} {tj tr : List UInt8} (hj : WV j d tj) (hr : LW l d obj ks.tail false tr) (hv : obj = true → validB (ks.headD ⟨#[]⟩) = true) :
    LW (j :: l) d obj ks fst ((if fst then [] else [44]) ++ ((if obj then quoteL (ks.headD ⟨#[]⟩) ++ [58] else []) ++ (tj ++ tr))) := by
  intro om ho i
  -- where the pieces begin
  obtain ⟨i1, hi1⟩ : ∃ i1, i1 = i + (if fst then ([] : List UInt8) else [44]).length := ⟨_, rfl⟩
  obtain ⟨i2, hi2⟩ : ∃ i2, i2 = i1 + (if obj then quoteL (ks.headD ⟨#[]⟩) ++ [58] else []).length := ⟨_, rfl⟩
  obtain ⟨tj', hj1, hj2⟩ := hj.2 om ho i2
  obtain ⟨tr', hr1, hr2, hr3⟩ := hr om ho (i2 + tj.length)
  obtain ⟨cm, hcm1, hcm2⟩ : ∃ cm : List UInt8, (∀ b, insW om i false false ((if fst then [] else [44]) ++ b) = cm ++ insW om i1 false false b) ∧ cm = if fst then [] else [(om i).1, 44, (om i).2] := by
    cases fst with
    | true => exact ⟨[], fun b => by rw [hi1]; rfl, rfl⟩
    | false => exact ⟨[(om i).1, 44, (om i).2], fun b => by rw [hi1]; exact ins_sign (by decide), rfl⟩
  obtain ⟨ky, hky1, hky2⟩ : ∃ ky : List UInt8, (∀ b, insW om i1 false false ((if obj then quoteL (ks.headD ⟨#[]⟩) ++ [58] else []) ++ b) = ky ++ insW om i2 false false b) ∧ ky = if obj then quoteL (ks.headD ⟨#[]⟩) ++ [(om (i1 + (quoteL (ks.headD ⟨#[]⟩)).length)).1, 58, (om (i1 + (quoteL (ks.headD ⟨#[]⟩)).length)).2] else [] := by
    cases obj with
    | false => exact ⟨[], fun b => by rw [hi2]; rfl, rfl⟩
    | true =>
      refine ⟨_, fun b => ?_, rfl⟩
      rw [if_pos rfl, if_pos rfl, List.append_assoc, ins_quote]
      show _ ++ insW om _ false false (58 :: b) = _
      rw [ins_sign (by decide), hi2, if_pos rfl, List.length_append, List.append_assoc]
      rfl
  refine ⟨cm ++ (ky ++ (tj' ++ tr')), fun b => ?_, fun e => ?_, fun s p r f L K c hc h hf hk => ?_⟩
  · rw [List.append_assoc, hcm1, List.append_assoc, hky1, List.append_assoc, hj1, hr1]
    simp only [List.length_append, List.append_assoc]
    rw [show i + ((if fst = true then ([] : List UInt8) else [44]).length + ((if obj = true then quoteL (ks.headD ⟨#[]⟩) ++ [58] else []).length + (tj.length + tr.length))) = i2 + tj.length + tr.length by rw [hi2, hi1]; omega]
  · subst e
    right
    rw [hcm2]
    exact (ho i).1
  · obtain ⟨g, rfl⟩ : ∃ g, f = g + 1 := ⟨f - 1, by omega⟩
    have hE : ∀ q, isD (hd0 (tr' ++ c :: q)) = false := fun q => by
      rcases hr2 rfl with e | e
      · subst e; exact (w_not hc).1
      · cases tr' with
        | nil => exact (w_not hc).1
        | cons a t => exact (w_not e).1
    -- behind the comma
    obtain ⟨p0, hs0, hlen0, hi0, hne, hnc⟩ : ∃ p0, Suf s p0 (ky ++ (tj' ++ (tr' ++ c :: (if obj then 125 else 93) :: r))) ∧ p0 = p + cm.length ∧ (if fst then whiteE s p else whiteE s (whiteE s p + 1)) = whiteE s p0 ∧ (bA s (whiteE s p) ≠ 93 ∧ bA s (whiteE s p) ≠ 125 ∨ fst = true) ∧ ¬ (fst = false ∧ bA s (whiteE s p) ≠ 44) := by
      have h' : Suf s p (cm ++ (ky ++ (tj' ++ (tr' ++ c :: (if obj then 125 else 93) :: r)))) := by
        have e : (cm ++ (ky ++ (tj' ++ tr')) ++ c :: (if obj then 125 else 93) :: r) = cm ++ (ky ++ (tj' ++ (tr' ++ c :: (if obj then 125 else 93) :: r))) := by simp only [List.append_assoc]
        rw [← e]; exact h
      cases fst with
      | true =>
        rw [hcm2] at h'
        exact ⟨p, h', by rw [hcm2]; rfl, rfl, .inr rfl, by simp⟩
      | false =>
        rw [hcm2] at h'
        have h' : Suf s p ((om i).1 :: 44 :: (om i).2 :: (ky ++ (tj' ++ (tr' ++ c :: (if obj then 125 else 93) :: r)))) := h'
        have h1 := (Suf.head h').2
        have hw1 : whiteE s p = p + 1 := (white_cons h' (ho i).1).trans (white_hd h1 rfl)
        have hb : bA s (p + 1) = 44 := (Suf.head h1).1
        have h2 := (Suf.head h1).2
        exact ⟨p + 1 + 1 + 1, (Suf.head h2).2, by rw [hcm2]; rfl, by rw [if_neg (by decide), hw1]; exact white_cons h2 (ho i).2, .inl (by rw [hw1, hb]; decide), by rw [hw1, hb]; simp⟩
    have hf2 : tr.length < g := by
      have := hj.1
      simp only [List.length_append] at hf
      omega
    cases obj with
    | false =>
      rw [hky2] at hs0
      have hs0 : Suf s p0 (tj' ++ (tr' ++ c :: 93 :: r)) := hs0
      obtain ⟨⟨hn93, _⟩, q, hq1, hq2⟩ := hj2 s p0 _ hs0 (hE _)
      have hne93 : bA s (whiteE s p) ≠ 93 := by
        rcases hne with hne | e
        · exact hne.1
        · subst e; rw [if_pos rfl] at hi0; rw [hi0]; exact hn93
      rw [el_list hne93 hnc, hi0, hq1]
      show elemsP (valP s d) s false g (whiteE s q) false (L ++ [norm j]) K = _
      rw [hq2, hr3 s (p0 + tj'.length) r g (L ++ [norm j]) K c hc hs0.app hf2 (by intro e; cases e), norms, List.append_assoc]
      have hz : p0 + tj'.length + tr'.length + 2 = p + (cm ++ (ky ++ (tj' ++ tr'))).length + 2 := by
        rw [hky2, hlen0]; simp only [List.length_append, Bool.false_eq_true, if_false, List.length_nil]; omega
      rw [hz]
      rfl
    | true =>
      obtain ⟨hkl, hkf⟩ := hk rfl
      cases ks with
      | nil => simp at hkl
      | cons k ks =>
        rw [hky2] at hs0
        have hvk : validB k = true := hv rfl
        obtain ⟨a, ha⟩ : ∃ a, a = i1 + (quoteL k).length := ⟨_, rfl⟩
        have hs0 : Suf s p0 (quoteL k ++ ((om a).1 :: 58 :: (om a).2 :: (tj' ++ (tr' ++ c :: 125 :: r)))) := by
          have e : (quoteL k ++ [(om (i1 + (quoteL k).length)).1, 58, (om (i1 + (quoteL k).length)).2] ++ (tj' ++ (tr' ++ c :: 125 :: r))) = quoteL k ++ ((om a).1 :: 58 :: (om a).2 :: (tj' ++ (tr' ++ c :: 125 :: r))) := by rw [ha, List.append_assoc]; rfl
          rw [← e]; exact hs0
        have hw0 : whiteE s p0 = p0 := white_hd hs0 (by rw [hd0_lt (quote_pos k)]; rfl)
        have hb0 : bA s p0 = 34 := by rw [hs0.hd, hd0_lt (quote_pos k)]; rfl
        have hne125 : bA s (whiteE s p) ≠ 125 := by
          rcases hne with hne | e
          · exact hne.2
          · subst e; rw [if_pos rfl] at hi0; rw [hi0, hw0, hb0]; decide
        rw [keysF_step, Bool.and_eq_true, Bool.and_eq_true] at hkf
        obtain ⟨⟨hkc, _⟩, hkr⟩ := hkf
        have hkc2 : K.contains k = false := by simpa using hkc
        rw [el_obj hne125 hnc, hi0, hw0, text_back hvk hs0]
        have h1 := hs0.app
        have h2 := (Suf.head h1).2
        have hw1 : whiteE s (p0 + (quoteL k).length) = p0 + (quoteL k).length + 1 := (white_cons h1 (ho a).1).trans (white_hd h2 rfl)
        have hb58 : bA s (p0 + (quoteL k).length + 1) = 58 := (Suf.head h2).1
        have h3 := (Suf.head h2).2
        have hw2 : whiteE s (p0 + (quoteL k).length + 1 + 1) = whiteE s (p0 + (quoteL k).length + 1 + 1 + 1) := white_cons h3 (ho a).2
        have h4 := (Suf.head h3).2
        obtain ⟨_, q, hq1, hq2⟩ := hj2 s (p0 + (quoteL k).length + 1 + 1 + 1) _ h4 (hE _)
        simp only [hkc2, Bool.false_eq_true, if_false, hw1, hb58, ne_eq, not_true, hw2]
        rw [hq1]
        show elemsP (valP s d) s true g (whiteE s q) false (L ++ [norm j]) (K ++ [k]) = _
        rw [hq2, hr3 s _ r g (L ++ [norm j]) (K ++ [k]) c hc h4.app hf2 (fun _ => ⟨by simp at hkl; exact hkl, hkr⟩), norms, List.append_assoc]
        have hz : p0 + (quoteL k).length + 1 + 1 + 1 + tj'.length + tr'.length + 2 = p + (cm ++ (ky ++ (tj' ++ tr'))).length + 2 := by
          rw [hky2, hlen0]
          simp only [List.length_append, if_pos, List.length_cons, List.length_nil, List.headD_cons]
          omega
        rw [hz]
        simp only [if_pos, List.append_assoc]
        rfl
theorem ins_len (om : Nat → UInt8 × UInt8) : ∀ (i : Nat) (wi sk : Bool) (l : List UInt8), l.length ≤ (insW om i wi sk l).length ∧ (insW om i wi sk l).length ≤ 3 * l.length
  | i, wi, sk, [] => by rw [insW]; simp
  | i, wi, sk, c :: r => by
    rw [insW]
    split
    · have := ins_len om (i + 1) wi sk r
      simp only [List.length_cons]
      omega
    · split
      · have := ins_len om (i + 1) wi true r
        simp only [List.length_cons]
        omega
      · have := ins_len om (i + 1) (if c.toNat = 34 ∧ sk = false then !wi else wi) false r
        simp only [List.length_cons]
        omega
theorem wv_list {b : Bool} {n : Int} {s0 : ByteArray} {l : List J} {ks : List ByteArray} {d : Nat} {tx : List UInt8} (h : LW l d false ks true tx) : WV (.mk 4 b n s0 l ks) (d + 1) (91 :: (tx ++ [93])) := by
  refine ⟨by simp, fun om ho i => ?_⟩
  obtain ⟨tx', h1, _, h3⟩ := h om ho (i + 1)
  refine ⟨(om i).1 :: 91 :: (om i).2 :: (tx' ++ [(om (i + 1 + tx.length)).1, 93, (om (i + 1 + tx.length)).2]), fun q => ?_, fun s p r hs _ => ?_⟩
  · show insW om i false false (91 :: ((tx ++ [93]) ++ q)) = _
    rw [ins_sign (by decide), List.append_assoc, h1]
    show _ :: _ :: _ :: (tx' ++ insW om (i + 1 + tx.length) false false (93 :: q)) = _
    rw [ins_sign (by decide), List.length_cons, List.length_append, show i + 1 + tx.length + 1 = i + (tx.length + [93].length + 1) by simp; omega]
    simp [List.append_assoc]
  · have hs : Suf s p ((om i).1 :: 91 :: (om i).2 :: (tx' ++ (om (i + 1 + tx.length)).1 :: 93 :: (om (i + 1 + tx.length)).2 :: r)) := by
      have e : ((om i).1 :: 91 :: (om i).2 :: (tx' ++ [(om (i + 1 + tx.length)).1, 93, (om (i + 1 + tx.length)).2])) ++ r = (om i).1 :: 91 :: (om i).2 :: (tx' ++ (om (i + 1 + tx.length)).1 :: 93 :: (om (i + 1 + tx.length)).2 :: r) := by simp [List.append_assoc]
      rw [← e]; exact hs
    have hs1 := (Suf.head hs).2
    have hw : whiteE s p = p + 1 := (white_cons hs (ho i).1).trans (white_hd hs1 rfl)
    have hb : bA s (p + 1) = 91 := (Suf.head hs1).1
    have hs2 := (Suf.head hs1).2
    have hs3 := (Suf.head hs2).2
    have hw2 : whiteE s (p + 1 + 1) = whiteE s (p + 1 + 1 + 1) := white_cons hs2 (ho i).2
    have hle := hs3.le
    rw [List.length_append] at hle
    have hlt : tx.length < s.size + 1 := by have := ins_len om (i + 1) false false tx; have e := h1 []; rw [List.append_nil] at e; rw [e, List.length_append] at this; simp only [insW, List.length_nil] at this; omega
    have he := h3 s (p + 1 + 1 + 1) ((om (i + 1 + tx.length)).2 :: r) (s.size + 1) [] [] _ (ho (i + 1 + tx.length)).1 hs3 hlt (by intro e; cases e)
    rw [hw, hb]
    refine ⟨⟨by decide, by decide⟩, p + 1 + 1 + 1 + tx'.length + 2, ?_, ?_⟩
    · have hv : valP s (d + 1) (p + 1) = (match elemsP (valP s d) s false (s.size + 1) (whiteE s (p + 1 + 1)) true [] [] with | .error e => .error e | .ok (l, ks, j) => .ok (.mk 4 false 0 ⟨#[]⟩ l ks, j)) := by
        rw [valP, if_pos (Or.inl hb), hb]
        rfl
      rw [hv, hw2, he, norm]
      rfl
    · have hs5 := (Suf.head (Suf.head hs3.app).2).2
      have := white_cons hs5 (ho (i + 1 + tx.length)).2
      rw [show p + 1 + 1 + 1 + tx'.length + 2 = p + 1 + 1 + 1 + tx'.length + 1 + 1 by omega, this]
      congr 1
      simp only [List.length_cons, List.length_append, List.length_nil]
      omega
theorem wv_obj {b : Bool} {n : Int} {s0 : ByteArray} {l : List J} {ks : List ByteArray} {d : Nat} {tx : List UInt8} (hk : ks.length = l.length ∧ keysF [] ks = true) (h : LW l d true ks true tx) : WV (.mk 5 b n s0 l ks) (d + 1) (123 :: (tx ++ [125])) := by
  refine ⟨by simp, fun om ho i => ?_⟩
  obtain ⟨tx', h1, _, h3⟩ := h om ho (i + 1)
  refine ⟨(om i).1 :: 123 :: (om i).2 :: (tx' ++ [(om (i + 1 + tx.length)).1, 125, (om (i + 1 + tx.length)).2]), fun q => ?_, fun s p r hs _ => ?_⟩
  · show insW om i false false (123 :: ((tx ++ [125]) ++ q)) = _
    rw [ins_sign (by decide), List.append_assoc, h1]
    show _ :: _ :: _ :: (tx' ++ insW om (i + 1 + tx.length) false false (125 :: q)) = _
    rw [ins_sign (by decide), List.length_cons, List.length_append, show i + 1 + tx.length + 1 = i + (tx.length + [125].length + 1) by simp; omega]
    simp [List.append_assoc]
  · have hs : Suf s p ((om i).1 :: 123 :: (om i).2 :: (tx' ++ (om (i + 1 + tx.length)).1 :: 125 :: (om (i + 1 + tx.length)).2 :: r)) := by
      have e : ((om i).1 :: 123 :: (om i).2 :: (tx' ++ [(om (i + 1 + tx.length)).1, 125, (om (i + 1 + tx.length)).2])) ++ r = (om i).1 :: 123 :: (om i).2 :: (tx' ++ (om (i + 1 + tx.length)).1 :: 125 :: (om (i + 1 + tx.length)).2 :: r) := by simp [List.append_assoc]
      rw [← e]; exact hs
    have hs1 := (Suf.head hs).2
    have hw : whiteE s p = p + 1 := (white_cons hs (ho i).1).trans (white_hd hs1 rfl)
    have hb : bA s (p + 1) = 123 := (Suf.head hs1).1
    have hs2 := (Suf.head hs1).2
    have hs3 := (Suf.head hs2).2
    have hw2 : whiteE s (p + 1 + 1) = whiteE s (p + 1 + 1 + 1) := white_cons hs2 (ho i).2
    have hle := hs3.le
    rw [List.length_append] at hle
    have hlt : tx.length < s.size + 1 := by have := ins_len om (i + 1) false false tx; have e := h1 []; rw [List.append_nil] at e; rw [e, List.length_append] at this; simp only [insW, List.length_nil] at this; omega
    have he := h3 s (p + 1 + 1 + 1) ((om (i + 1 + tx.length)).2 :: r) (s.size + 1) [] [] _ (ho (i + 1 + tx.length)).1 hs3 hlt (fun _ => hk)
    rw [hw, hb]
    refine ⟨⟨by decide, by decide⟩, p + 1 + 1 + 1 + tx'.length + 2, ?_, ?_⟩
    · have hv : valP s (d + 1) (p + 1) = (match elemsP (valP s d) s true (s.size + 1) (whiteE s (p + 1 + 1)) true [] [] with | .error e => .error e | .ok (l, ks, j) => .ok (.mk 5 false 0 ⟨#[]⟩ l ks, j)) := by
        rw [valP, if_pos (Or.inr hb), hb]
        rfl
      rw [hv, hw2, he, norm]
      rfl
    · have hs5 := (Suf.head (Suf.head hs3.app).2).2
      have := white_cons hs5 (ho (i + 1 + tx.length)).2
      rw [show p + 1 + 1 + 1 + tx'.length + 2 = p + 1 + 1 + 1 + tx'.length + 1 + 1 by omega, this]
      congr 1
      simp only [List.length_cons, List.length_append, List.length_nil]
      omega
mutual
theorem val_white : ∀ (j : J) (d : Nat) (out o : List UInt8), FineJ j → prV j d out = .ok o → ∃ tx, o = out ++ tx ∧ WV j d tx
  | .mk k b n s l ks, d, out, o, hf, h => by
    rw [FineJ] at hf
    rw [prV] at h
    split at h
    · rename_i hk; subst hk
      exact ⟨_, (addE_inv h).1, wv_leaf (vb_null d) (fun om i b => ins_plain (by decide))⟩
    · split at h
      · rename_i hk; subst hk
        exact ⟨_, (addE_inv h).1, wv_leaf (vb_bool d) (fun om i q => ins_plain (by cases b <;> decide))⟩
      · split at h
        · rename_i hk; subst hk
          exact ⟨_, (addE_inv h).1, wv_leaf (vb_num d hf.2.1.2.1 hf.2.1.2.2) (fun om i q => ins_plain (itoa_plain n))⟩
        · split at h
          · rename_i hk; subst hk
            obtain ⟨hv, e⟩ := textW_inv h
            exact ⟨_, e, wv_leaf (vb_text d hv) (fun om i q => ins_quote)⟩
          · split at h
            · rename_i hk; subst hk
              split at h
              · cases h
              · rename_i hd
                obtain ⟨o1, h1, h⟩ := andE_inv h
                obtain ⟨o2, h2, h⟩ := andE_inv h
                obtain ⟨e1, _⟩ := addE_inv h1
                obtain ⟨tx, e2, hlb⟩ := list_white l (d - 1) false ks true o1 o2 hf.2.2.2.2 h2 (by intro e; cases e)
                obtain ⟨e3, _⟩ := addE_inv h
                obtain ⟨d, rfl⟩ : ∃ q, d = q + 1 := ⟨d - 1, by omega⟩
                exact ⟨91 :: (tx ++ [93]), by rw [e3, e2, e1]; simp [List.append_assoc], wv_list hlb⟩
            · split at h
              · rename_i hk; subst hk
                split at h
                · cases h
                · split at h
                  · rename_i hd hkk
                    obtain ⟨o1, h1, h⟩ := andE_inv h
                    obtain ⟨o2, h2, h⟩ := andE_inv h
                    obtain ⟨e1, _⟩ := addE_inv h1
                    obtain ⟨tx, e2, hlb⟩ := list_white l (d - 1) true ks true o1 o2 hf.2.2.2.2 h2 (fun _ => hkk.1)
                    obtain ⟨e3, _⟩ := addE_inv h
                    obtain ⟨d, rfl⟩ : ∃ q, d = q + 1 := ⟨d - 1, by omega⟩
                    exact ⟨123 :: (tx ++ [125]), by rw [e3, e2, e1]; simp [List.append_assoc], wv_obj hkk hlb⟩
                  · cases h
              · cases h
theorem list_white : ∀ (l : List J) (d : Nat) (obj : Bool) (ks : List ByteArray) (fst : Bool) (out o : List UInt8), FineJs l → prL l d obj ks fst out = .ok o → (obj = true → ks.length = l.length) → ∃ tx, o = out ++ tx ∧ LW l d obj ks fst tx
  | [], d, obj, ks, fst, out, o, _, h, _ => by
    rw [prL] at h
    injection h with h
    exact ⟨[], by rw [List.append_nil, h], lw_nil d obj ks fst⟩
  | j :: r, d, obj, ks, fst, out, o, hf, h, hk => by
    rw [FineJs] at hf
    rw [prL_cons] at h
    obtain ⟨o1, h1, h⟩ := andE_inv h
    obtain ⟨o2, h2, h⟩ := andE_inv h
    obtain ⟨o3, h3, h⟩ := andE_inv h
    obtain ⟨tj, e3, hj⟩ := val_white j d o2 o3 hf.1 h3
    obtain ⟨tr, e4, hr⟩ := list_white r d obj ks.tail false o3 o hf.2 h (fun e => by have := hk e; rw [List.length_tail, this]; simp)
    have e1 : o1 = out ++ (if fst then [] else [44]) := by
      cases fst
      · exact (addE_inv h1).1
      · simp at h1; rw [← h1]; simp
    have e2 : o2 = o1 ++ (if obj then quoteL (ks.headD ⟨#[]⟩) ++ [58] else []) ∧ (obj = true → validB (ks.headD ⟨#[]⟩) = true) := by
      cases obj
      · simp at h2; exact ⟨by rw [← h2]; simp, fun e => by cases e⟩
      · have h2 : andE (textW (ks.headD ⟨#[]⟩) o1) (fun o => addE o [58]) = .ok o2 := h2
        obtain ⟨o5, h5, h6⟩ := andE_inv h2
        obtain ⟨hv, e5⟩ := textW_inv h5
        exact ⟨by rw [(addE_inv h6).1, e5, List.append_assoc]; rfl, fun _ => hv⟩
    exact ⟨_, by rw [e4, e3, e2.1, e1, List.append_assoc, List.append_assoc, List.append_assoc], lw_cons hj hr e2.2⟩
end
/-- White between turns nothing. -/
theorem white_parse {j : J} {o : List UInt8} (hf : FineJ j) (h : prV j 16 [] = .ok o) (hl : o.length ≤ 2000) {om : Nat → UInt8 × UInt8} (ho : Whites om) : parseP (ofL (insW om 0 false false o)) = (norm j, 0) := by
  obtain ⟨tx, e, hv⟩ := val_white j 16 [] o hf h
  rw [List.nil_append] at e
  subst e
  obtain ⟨tx', h1, h2⟩ := hv.2 om ho 0
  have h3 := h1 []
  rw [List.append_nil, show insW om (0 + o.length) false false [] = [] from by rw [insW], List.append_nil] at h3
  have hlen := (ins_len om 0 false false o).2
  rw [h3] at hlen ⊢
  have hs : Suf (ofL tx') 0 (tx' ++ []) := by rw [List.append_nil]; exact suf_of tx'
  obtain ⟨_, q, hq1, hq2⟩ := h2 (ofL tx') 0 [] hs rfl
  rw [parseP, if_neg (by rw [ofL_size]; omega), hq1]
  have hn := hs.app
  simp only
  rw [hq2, white_hd hn rfl, if_pos hn.nil.2]
end Go.Proofs.YtoibfefalflooaaDoor
