/-
  What is printed is parsed: texts, plain.
-/
import Derived.Test.YtoibfefalflooaaDoorJ7
import Derived.Test.YtoibfefalflooaaDoorJu
namespace Go.Proofs.YtoibfefalflooaaDoor
open Go.RowKit

/-- A byte that goes on: its six bits; -1: none. -/
def nb (c : Nat) : Int := if 128 ≤ c ∧ c ≤ 191 then (c : Int) - 128 else -1
def byN (l : List UInt8) (k : Nat) : Nat := match l[k]? with | some c => c.toNat | none => 0
/-- The rune that a list begins with. -/
def runeL (l : List UInt8) : Int × Int :=
  match l with
  | [] => (0, 0)
  | c :: r => runeC c.toNat (nb (byN r 0)) (nb (byN r 1)) (nb (byN r 2))
theorem nextB_bA (s : ByteArray) (i : Nat) : nextB s i = nb (bA s i) := by
  unfold nextB bA
  split
  · rfl
  · rfl
theorem suf_by {s : ByteArray} {i : Nat} {l : List UInt8} (h : Suf s i l) (k : Nat) : bA s (i + k) = byN l k := by
  have hl := h.le
  unfold byN
  by_cases hk : k < l.length
  · rw [List.getElem?_eq_getElem hk]
    have hi : i + k < s.size := by omega
    rw [bA_at hi]
    have h2 : l[k]? = s.data.toList[i + k]? := by rw [← h.1, List.getElem?_drop]
    rw [List.getElem?_eq_getElem hk, List.getElem?_eq_getElem (by exact hi)] at h2
    injection h2 with h2
    show _ = l[k].toNat
    rw [h2]
    rfl
  · rw [List.getElem?_eq_none (by omega)]
    exact bA_end (by omega)
theorem rune_suf {s : ByteArray} {i : Nat} {l : List UInt8} (h : Suf s i l) : runeT s i = runeL l := by
  have hl := h.le
  cases l with
  | nil => rw [runeT, dif_neg (by simp only [List.length_nil] at hl; omega)]; rfl
  | cons c r =>
    simp only [List.length_cons] at hl
    obtain ⟨hb, hs⟩ := h.head
    have h0 := suf_by hs 0
    have h1 := suf_by hs 1
    have h2 := suf_by hs 2
    rw [runeT_at (by omega), nextB_bA, nextB_bA, nextB_bA]
    rw [bA_at (show i < s.size by omega)] at hb
    rw [hb, show i + 2 = i + 1 + 1 by omega, show i + 3 = i + 1 + 2 by omega, h1, h2]
    rw [Nat.add_zero] at h0
    rw [h0]
    rfl
theorem nb_nn {c : Nat} (h : 0 ≤ nb c) : 128 ≤ c ∧ c ≤ 191 := by
  unfold nb at h
  split at h
  · assumption
  · omega
theorem byN_ne {l : List UInt8} {k : Nat} (h : 128 ≤ byN l k) : ∃ c, l[k]? = some c ∧ 128 ≤ c.toNat := by
  unfold byN at h
  split at h
  · rename_i c hc; exact ⟨c, hc, h⟩
  · omega
theorem two_of {l : List UInt8} (h : 1 < l.length) : ∃ a b r, l = a :: b :: r := by
  match l, h with
  | a :: b :: r, _ => exact ⟨a, b, r, rfl⟩
  | [a], h => simp at h
  | [], h => simp at h
theorem three_of {l : List UInt8} (h : 2 < l.length) : ∃ a b c r, l = a :: b :: c :: r := by
  match l, h with
  | a :: b :: c :: r, _ => exact ⟨a, b, c, r, rfl⟩
  | [a, b], h => simp at h
  | [a], h => simp at h
  | [], h => simp at h
/-- How a list of bytes begins that begins with a rune. -/
structure Run (p : List UInt8) (x n : Int) : Prop where
  len : p.length = n
  pos : 0 < n
  any : ∀ r, runeL (p ++ r) = (x, n)
  one : n = 1 → ∃ c : UInt8, p = [c] ∧ c.toNat < 128 ∧ x = c.toNat
  more : n ≠ 1 → (∀ c ∈ p, 128 ≤ c.toNat) ∧ 128 ≤ x
theorem run_of {l : List UInt8} {x n : Int} (h : runeL l = (x, n)) (hn : n ≠ 0) : ∃ p r, l = p ++ r ∧ Run p x n := by
  cases l with
  | nil => simp [runeL] at h; exact absurd h.2.symm hn
  | cons c r =>
    have hc := c.toNat_lt
    have h : runeC c.toNat (nb (byN r 0)) (nb (byN r 1)) (nb (byN r 2)) = (x, n) := h
    unfold runeC at h
    split at h
    · rename_i h1
      injection h with h2 h3
      subst h2 h3
      refine ⟨[c], r, rfl, rfl, by decide, fun q => ?_, fun _ => ⟨c, rfl, by omega, rfl⟩, fun e => absurd rfl e⟩
      show runeC _ _ _ _ = _
      rw [runeC, if_pos h1]
    · split at h
      · injection h with h2 h3; exact absurd h3.symm hn
      · split at h
        · rename_i h1 h2 h3
          injection h with h4 h5
          subst h4 h5
          obtain ⟨k1, k2⟩ := nb_nn h3.2
          obtain ⟨a, ha, ha2⟩ := byN_ne (by omega)
          obtain ⟨a', r', rfl⟩ : ∃ a r', r = a :: r' := by cases r with | nil => simp at ha | cons a r' => exact ⟨a, r', rfl⟩
          refine ⟨[c, a'], r', rfl, rfl, by decide, fun q => ?_, fun e => by omega, fun _ => ⟨fun y hy => ?_, ?_⟩⟩
          · show runeC _ _ _ _ = _
            rw [runeC, if_neg h1, if_neg h2]
            exact if_pos h3
          · simp at ha
            subst ha
            simp at hy
            rcases hy with rfl | rfl <;> omega
          · have : nb (byN (a' :: r') 0) = (byN (a' :: r') 0 : Int) - 128 := by rw [nb, if_pos ⟨k1, k2⟩]
            omega
        · split at h
          · rename_i h1 h2 h3 h6
            split at h
            · rename_i h7
              injection h with h4 h5
              subst h5
              obtain ⟨k1, k2⟩ := nb_nn h6.2.2.1
              obtain ⟨k3, k4⟩ := nb_nn h6.2.2.2
              obtain ⟨a, ha, ha2⟩ := byN_ne (by omega : 128 ≤ byN r 0)
              obtain ⟨b, hb, hb2⟩ := byN_ne (by omega : 128 ≤ byN r 1)
              obtain ⟨a', b', r', rfl⟩ := two_of (List.getElem?_eq_some_iff.1 hb).1
              refine ⟨[c, a', b'], r', rfl, rfl, by decide, fun q => ?_, fun e => by omega, fun _ => ⟨fun y hy => ?_, by omega⟩⟩
              · show runeC _ _ _ _ = _
                rw [runeC, if_neg h1, if_neg h2, if_neg (by omega)]
                rw [← h4]
                exact (if_pos h6).trans (if_pos h7)
              · simp at ha hb
                subst ha hb
                simp at hy
                rcases hy with rfl | rfl | rfl <;> omega
            · injection h with h4 h5; exact absurd h5.symm hn
          · split at h
            · rename_i h1 h2 h3 h6 h8
              split at h
              · rename_i h7
                injection h with h4 h5
                subst h5
                obtain ⟨k1, k2⟩ := nb_nn h8.2.1
                obtain ⟨k3, k4⟩ := nb_nn h8.2.2.1
                obtain ⟨k5, k6⟩ := nb_nn h8.2.2.2
                obtain ⟨a, ha, ha2⟩ := byN_ne (by omega : 128 ≤ byN r 0)
                obtain ⟨b, hb, hb2⟩ := byN_ne (by omega : 128 ≤ byN r 1)
                obtain ⟨d, hd, hd2⟩ := byN_ne (by omega : 128 ≤ byN r 2)
                obtain ⟨a', b', d', r', rfl⟩ := three_of (List.getElem?_eq_some_iff.1 hd).1
                refine ⟨[c, a', b', d'], r', rfl, rfl, by decide, fun q => ?_, fun e => by omega, fun _ => ⟨fun y hy => ?_, by omega⟩⟩
                · show runeC _ _ _ _ = _
                  rw [runeC, if_neg h1, if_neg h2, if_neg (by omega), if_neg (by omega)]
                  rw [← h4]
                  exact (if_pos h8).trans (if_pos h7)
                · simp at ha hb hd
                  subst ha hb hd
                  simp at hy
                  rcases hy with rfl | rfl | rfl | rfl <;> omega
              · injection h with h4 h5; exact absurd h5.symm hn
            · injection h with h4 h5; exact absurd h5.symm hn
/-- A list of runes. -/
inductive Runes : List UInt8 → Prop where
  | nil : Runes []
  | cons {p r : List UInt8} {x n : Int} (h : Run p x n) (hr : Runes r) : Runes (p ++ r)
theorem runes_of {s : ByteArray} : ∀ (f i : Nat) (l : List UInt8), Suf s i l → s.size < f + i → firstN f s i < 0 → Runes l
  | 0, i, l, h, hf, _ => by have := h.2; omega
  | f + 1, i, l, h, hf, hv => by
    by_cases hi : i < s.size
    · by_cases hz : (runeT s i).2 = 0
      · rw [firstN_stop hi hz] at hv; omega
      · rw [firstN_step hi hz] at hv
        rw [rune_suf h] at hz hv
        obtain ⟨p, r, rfl, hr⟩ := run_of (x := (runeL l).1) (n := (runeL l).2) rfl hz
        have hs := h.app
        rw [hr.any r] at hv
        have hpl : p.length = ((runeL (p ++ r)).2).toNat := by have := hr.len; omega
        have hpos : 0 < p.length := by have := hr.pos; have := hr.len; omega
        rw [hr.any r] at hpl
        refine .cons hr (runes_of f (i + p.length) r hs (by omega) ?_)
        rw [hpl]
        exact hv
    · have := h.le
      have : l = [] := List.length_eq_zero_iff.1 (by omega)
      subst this
      exact .nil
theorem valid_runes {s : ByteArray} (h : validB s = true) : Runes s.data.toList := runes_of (s.size + 1) 0 _ ⟨rfl, Nat.zero_le _⟩ (by omega) (by unfold validB firstR at h; simpa using h)
theorem qBs_big : ∀ {p : List UInt8}, (∀ c ∈ p, 128 ≤ c.toNat) → qBs p = p
  | [], _ => rfl
  | c :: r, h => by
    have hc := h c (by simp)
    rw [qBs, qBs_big (fun x hx => h x (by simp [hx])), qB, if_neg (by omega), if_neg (by omega), if_neg (by omega), if_neg (by omega), if_neg (by omega), if_neg (by omega), if_neg (by omega)]
    rfl
theorem hex_back : ∀ n : Fin 16, hexV (hexD n.val).toNat = some n.val := by decide
theorem hex_up : ∀ n : Fin 2, hexV (UInt8.ofNat (48 + n.val)).toNat = some n.val := by decide
theorem uni_back {s : ByteArray} {i : Nat} {c : UInt8} {r : List UInt8} (hc : c.toNat < 32) (h : Suf s i ([48, 48, UInt8.ofNat (48 + c.toNat / 16), hexD (c.toNat % 16)] ++ r)) : uniP s i = some ([c], i + 4) := by
  obtain ⟨b0, h1⟩ := h.head
  obtain ⟨b1, h2⟩ := h1.head
  obtain ⟨b2, h3⟩ := h2.head
  obtain ⟨b3, h4⟩ := h3.head
  have e0 : hexV (bA s i) = some 0 := by rw [b0]; decide
  have e1 : hexV (bA s (i + 1)) = some 0 := by rw [b1]; decide
  have e2 : hexV (bA s (i + 1 + 1)) = some (c.toNat / 16) := by rw [b2]; exact hex_up ⟨c.toNat / 16, by omega⟩
  have e3 : hexV (bA s (i + 1 + 1 + 1)) = some (c.toNat % 16) := by rw [b3]; exact hex_back ⟨c.toNat % 16, by omega⟩
  have hx : hexP s i = some c.toNat := by
    rw [hexP, hexN_yes e0, hexN_yes e1, hexN_yes e2, hexN_yes e3, hexN]
    congr 1
    omega
  have hp : putR (c.toNat : Int) = some [c] := by
    rw [putR, if_neg (by omega), if_pos (by omega)]
    congr 2
    rw [Int.toNat_natCast]
    exact UInt8.toNat_inj.1 (by rw [UInt8.toNat_ofNat']; have := c.toNat_lt; omega)
  unfold uniP
  rw [hx]
  show (if _ then _ else _) = _
  rw [if_neg (by omega), hp]
  rfl
theorem u8_of {c : UInt8} {k : Nat} (h : c.toNat = k) (hk : k < 256) : c = UInt8.ofNat k := UInt8.toNat_inj.1 (by rw [UInt8.toNat_ofNat', h]; omega)
theorem textN_back {s : ByteArray} {r : List UInt8} {l : List UInt8} (hl : Runes l) : ∀ (f i : Nat) (out : List UInt8), Suf s i (qBs l ++ 34 :: r) → (qBs l).length < f → textN s f i out = some (out ++ l, i + (qBs l).length + 1) := by
  induction hl with
  | nil =>
    intro f i out h hf
    obtain ⟨g, rfl⟩ : ∃ g, f = g + 1 := ⟨f - 1, by simp [qBs] at hf; omega⟩
    have hb : bA s i = 34 := (Suf.head h).1
    rw [textN_quote hb, List.append_nil]
    rfl
  | @cons p q x n hp hq ih =>
    intro f i out h hf
    rw [qBs_app, List.append_assoc] at h
    rw [qBs_app, List.length_append] at hf
    obtain ⟨g, rfl⟩ : ∃ g, f = g + 1 := ⟨f - 1, by omega⟩
    rw [qBs_app, List.length_append]
    by_cases hn : n = 1
    · obtain ⟨c, rfl, hc, hx⟩ := hp.one hn
      have hq1 : qBs [c] = qB c := by rw [qBs, qBs, List.append_nil]
      rw [hq1] at h hf ⊢
      have hs := Suf.app h
      have hqp := (qB_len c).1
      have IH := fun (o : List UInt8) (k : Nat) (hk : k = i + (qB c).length) => ih g k o (by rw [hk]; exact hs) (by omega)
      have step : ∀ (j : Nat), j = i + (qB c).length → textN s g j (out ++ [c]) = some (out ++ ([c] ++ q), i + ((qB c).length + (qBs q).length) + 1) := fun j hj => by
        rw [IH (out ++ [c]) j hj, List.append_assoc, hj]
        congr 2
        omega
      have stroke : ∀ (k : UInt8) (t : List UInt8), qB c = 92 :: k :: t → bA s i = 92 ∧ Suf s (i + 1) (k :: t ++ (qBs q ++ 34 :: r)) := fun k t e => by
        rw [e] at h
        exact Suf.head h
      have fin : ∀ (j : Nat), bA s i = 92 → escP s (i + 1) = some ([c], j) → j = i + (qB c).length → textN s (g + 1) i out = some (out ++ ([c] ++ q), i + ((qB c).length + (qBs q).length) + 1) := fun j hb he hj => by
        rw [textN_stroke hb, he]
        exact step j hj
      by_cases h1 : c.toNat = 34 ∨ c.toNat = 92
      · have e : qB c = [92, c] := by rw [qB, if_pos h1]
        obtain ⟨b, hs2⟩ := stroke c [] e
        have hb1 := hs2.head.1
        refine fin (i + 2) b ?_ (by rw [e]; rfl)
        rw [escP, hb1, if_pos (by omega)]
        congr 2
        congr 1
        exact (u8_of rfl c.toNat_lt).symm
      by_cases h2 : c.toNat = 8
      · have e : qB c = [92, 98] := by rw [qB, if_neg h1, if_pos h2]
        obtain ⟨b, hs2⟩ := stroke 98 [] e
        have hb1 : bA s (i + 1) = 98 := hs2.head.1
        refine fin (i + 2) b ?_ (by rw [e]; rfl)
        rw [escP, hb1, if_neg (by decide), if_pos rfl, u8_of h2 (by decide)]
        rfl
      by_cases h3 : c.toNat = 12
      · have e : qB c = [92, 102] := by rw [qB, if_neg h1, if_neg h2, if_pos h3]
        obtain ⟨b, hs2⟩ := stroke 102 [] e
        have hb1 : bA s (i + 1) = 102 := hs2.head.1
        refine fin (i + 2) b ?_ (by rw [e]; rfl)
        rw [escP, hb1, if_neg (by decide), if_neg (by decide), if_pos rfl, u8_of h3 (by decide)]
        rfl
      by_cases h4 : c.toNat = 10
      · have e : qB c = [92, 110] := by rw [qB, if_neg h1, if_neg h2, if_neg h3, if_pos h4]
        obtain ⟨b, hs2⟩ := stroke 110 [] e
        have hb1 : bA s (i + 1) = 110 := hs2.head.1
        refine fin (i + 2) b ?_ (by rw [e]; rfl)
        rw [escP, hb1, if_neg (by decide), if_neg (by decide), if_neg (by decide), if_pos rfl, u8_of h4 (by decide)]
        rfl
      by_cases h5 : c.toNat = 13
      · have e : qB c = [92, 114] := by rw [qB, if_neg h1, if_neg h2, if_neg h3, if_neg h4, if_pos h5]
        obtain ⟨b, hs2⟩ := stroke 114 [] e
        have hb1 : bA s (i + 1) = 114 := hs2.head.1
        refine fin (i + 2) b ?_ (by rw [e]; rfl)
        rw [escP, hb1, if_neg (by decide), if_neg (by decide), if_neg (by decide), if_neg (by decide), if_pos rfl, u8_of h5 (by decide)]
        rfl
      by_cases h6 : c.toNat = 9
      · have e : qB c = [92, 116] := by rw [qB, if_neg h1, if_neg h2, if_neg h3, if_neg h4, if_neg h5, if_pos h6]
        obtain ⟨b, hs2⟩ := stroke 116 [] e
        have hb1 : bA s (i + 1) = 116 := hs2.head.1
        refine fin (i + 2) b ?_ (by rw [e]; rfl)
        rw [escP, hb1, if_neg (by decide), if_neg (by decide), if_neg (by decide), if_neg (by decide), if_neg (by decide), if_pos rfl, u8_of h6 (by decide)]
        rfl
      by_cases h7 : c.toNat < 32
      · have e : qB c = [92, 117, 48, 48, UInt8.ofNat (48 + c.toNat / 16), hexD (c.toNat % 16)] := by rw [qB, if_neg h1, if_neg h2, if_neg h3, if_neg h4, if_neg h5, if_neg h6, if_pos h7]
        obtain ⟨b, hs2⟩ := stroke 117 [48, 48, UInt8.ofNat (48 + c.toNat / 16), hexD (c.toNat % 16)] e
        obtain ⟨hb1, hs3⟩ := hs2.head
        have hb1 : bA s (i + 1) = 117 := hb1
        refine fin (i + 6) b ?_ (by rw [e]; rfl)
        rw [escP, hb1, if_neg (by decide), if_neg (by decide), if_neg (by decide), if_neg (by decide), if_neg (by decide), if_neg (by decide), if_pos rfl, uni_back h7 hs3]
      · have e : qB c = [c] := by rw [qB, if_neg h1, if_neg h2, if_neg h3, if_neg h4, if_neg h5, if_neg h6, if_neg h7]
        rw [e] at h
        have hb := (Suf.head h).1
        have hru := rune_suf h
        rw [hp.any] at hru
        rw [textN_rune (by omega) (by rw [hru]; simp only; omega), hru]
        have hd : (s.data.toList.drop i).take n.toNat = [c] := by rw [h.1, hn]; rfl
        show textN s g (i + n.toNat) (out ++ (s.data.toList.drop i).take n.toNat) = _
        rw [hd]
        exact step _ (by rw [e, hn]; rfl)
    · obtain ⟨hbig, hx⟩ := hp.more hn
      rw [qBs_big hbig] at h hf ⊢
      have hs := Suf.app h
      have hru := rune_suf h
      rw [hp.any] at hru
      have hlen := hp.len
      have hpos := hp.pos
      obtain ⟨c, p', hpc⟩ : ∃ c p', p = c :: p' := by cases p with | nil => simp at hlen; omega | cons c p' => exact ⟨c, p', rfl⟩
      have hb : bA s i = c.toNat := by rw [hpc] at h; exact (Suf.head h).1
      have hc := hbig c (by rw [hpc]; simp)
      rw [textN_rune (by omega) (by rw [hru]; simp only; omega), hru]
      have hd : (s.data.toList.drop i).take n.toNat = p := by
        rw [h.1, show n.toNat = p.length by omega, List.take_left']
        rfl
      show textN s g (i + n.toNat) (out ++ (s.data.toList.drop i).take n.toNat) = _
      rw [hd, show i + n.toNat = i + p.length by omega, ih g (i + p.length) (out ++ p) hs (by omega), List.append_assoc]
      congr 2
      omega
/-- A text that is printed is parsed. -/
theorem text_back {s t : ByteArray} {i : Nat} {r : List UInt8} (hv : validB t = true) (h : Suf s i (quoteL t ++ r)) : textP s i = some (t, i + (quoteL t).length) := by
  have hle := h.le
  unfold quoteL at h hle ⊢
  rw [List.length_append, List.length_cons, List.length_append] at hle
  obtain ⟨hb, hs⟩ := Suf.head h
  have hb : bA s i = 34 := hb
  have hs : Suf s (i + 1) (qBs t.data.toList ++ 34 :: r) := by
    have e : ((qBs t.data.toList).append [34] ++ r) = qBs t.data.toList ++ 34 :: r := by
      show (qBs t.data.toList ++ [34]) ++ r = _
      rw [List.append_assoc]; rfl
    rw [← e]
    exact hs
  rw [textP, if_pos hb, textN_back (valid_runes hv) (s.size + 1) (i + 1) [] hs (by omega)]
  simp only [List.nil_append, List.length_cons, List.length_append, List.length_nil]
  congr 2
  omega
end Go.Proofs.YtoibfefalflooaaDoor
