/-
  What is printed is parsed: values, plain.
-/
import Derived.Test.YtoibfefalflooaaDoorMt
import Derived.Test.YtoibfefalflooaaDoorJ8
import Derived.Test.YtoibfefalflooaaDoorJy
namespace Go.Proofs.YtoibfefalflooaaDoor
open Go.RowKit

mutual
/-- A value without what its kind does not have. -/
def norm : J → J
  | .mk k b n s l ks =>
    if k = 1 then .mk 1 b 0 ⟨#[]⟩ [] []
    else if k = 2 then .mk 2 false n ⟨#[]⟩ [] []
    else if k = 3 then .mk 3 false 0 s [] []
    else if k = 4 then .mk 4 false 0 ⟨#[]⟩ (norms l) []
    else if k = 5 then .mk 5 false 0 ⟨#[]⟩ (norms l) ks
    else J.zero
def norms : List J → List J
  | [] => []
  | j :: r => norm j :: norms r
end
theorem addE_inv {o t q : List UInt8} (h : addE o t = .ok q) : q = o ++ t ∧ q.length ≤ 65536 := by
  unfold addE at h
  split at h
  · cases h
  · injection h with h; subst h; rw [List.length_append]; exact ⟨rfl, by omega⟩
theorem andE_inv {r : Except Int (List UInt8)} {f : List UInt8 → Except Int (List UInt8)} {q : List UInt8} (h : andE r f = .ok q) : ∃ o, r = .ok o ∧ f o = .ok q := by
  cases r with
  | error e => cases h
  | ok o => exact ⟨o, rfl, h⟩
theorem textW_inv {s : ByteArray} {o q : List UInt8} (h : textW s o = .ok q) : validB s = true ∧ q = o ++ quoteL s := by
  unfold textW at h
  split at h
  · rename_i hv; exact ⟨hv, (addE_inv h).1⟩
  · cases h
/-- A value's text, and that it comes back. -/
structure VB (j : J) (d : Nat) (tx : List UInt8) : Prop where
  pos : 0 < tx.length
  hw : isW (hd0 tx) = false
  h93 : hd0 tx ≠ 93
  h125 : hd0 tx ≠ 125
  back : ∀ (s : ByteArray) (i : Nat) (r : List UInt8), Suf s i (tx ++ r) → isD (hd0 r) = false → valP s d i = .ok (norm j, i + tx.length)
theorem word_back {s : ByteArray} : ∀ {t : List UInt8} {i : Nat} {r : List UInt8}, Suf s i (t ++ r) → wordB s i t = true
  | [], i, r, _ => rfl
  | c :: t, i, r, h => by
    obtain ⟨hb, hs⟩ := Suf.head (l := t ++ r) h
    rw [wordB, word_back hs, Bool.and_true]
    have hi : i < s.size := by have := Suf.le h; rw [List.length_append, List.length_cons] at this; omega
    rw [dif_pos hi]
    rw [bA_at hi] at hb
    have : s[i] = c := UInt8.toNat_inj.1 hb
    rw [this]
    exact beq_self_eq_true c
theorem hd0_lt {l : List UInt8} (h : 0 < l.length) (r : List UInt8) : hd0 (l ++ r) = hd0 l := hd0_app h
theorem vb_null {b : Bool} {n : Int} {s : ByteArray} {l : List J} {ks : List ByteArray} (d : Nat) : VB (.mk 0 b n s l ks) d [110, 117, 108, 108] := by
  refine ⟨by decide, by decide, by decide, by decide, fun s i r h _ => ?_⟩
  have hb : bA s i = 110 := (Suf.head h).1
  rw [val_leafP (by omega), leafP, if_pos hb, if_pos (word_back h)]
  rw [norm]
  rfl
theorem vb_bool {b : Bool} {n : Int} {s : ByteArray} {l : List J} {ks : List ByteArray} (d : Nat) : VB (.mk 1 b n s l ks) d (Go.Lib.formatBool b) := by
  cases b with
  | true =>
    refine ⟨by decide, by decide, by decide, by decide, fun s i r h _ => ?_⟩
    have h : Suf s i ([116, 114, 117, 101] ++ r) := h
    have hb : bA s i = 116 := (Suf.head h).1
    rw [val_leafP (by omega), leafP, if_neg (by omega), if_pos hb, if_pos (word_back h)]
    rw [norm]
    rfl
  | false =>
    refine ⟨by decide, by decide, by decide, by decide, fun s i r h _ => ?_⟩
    have h : Suf s i ([102, 97, 108, 115, 101] ++ r) := h
    have hb : bA s i = 102 := (Suf.head h).1
    rw [val_leafP (by omega), leafP, if_neg (by omega), if_neg (by omega), if_pos hb, if_pos (word_back h)]
    rw [norm]
    rfl
theorem vb_num {b : Bool} {n : Int} {s : ByteArray} {l : List J} {ks : List ByteArray} (d : Nat) (h0 : -9223372036854775808 ≤ n) (h1 : n ≤ 9223372036854775807) : VB (.mk 2 b n s l ks) d (Go.Lib.itoa n) := by
  have hh := itoa_hd n
  refine ⟨itoa_pos n, notW hh, by omega, by omega, fun s i r h hr => ?_⟩
  rw [val_num h hr h0 h1, norm]
  rfl
theorem quote_hd (t : ByteArray) : hd0 (quoteL t) = 34 := rfl
theorem quote_pos (t : ByteArray) : 0 < (quoteL t).length := by rw [quoteL]; simp
theorem vb_text {b : Bool} {n : Int} {t : ByteArray} {l : List J} {ks : List ByteArray} (d : Nat) (hv : validB t = true) : VB (.mk 3 b n t l ks) d (quoteL t) := by
  refine ⟨quote_pos t, by rw [quote_hd]; decide, by rw [quote_hd]; decide, by rw [quote_hd]; decide, fun s i r h _ => ?_⟩
  have hb : bA s i = 34 := by rw [h.hd, hd0_lt (quote_pos t), quote_hd]
  rw [val_leafP (by omega), leafP, if_neg (by omega), if_neg (by omega), if_neg (by omega), if_pos hb, text_back hv h, norm]
  rfl
/-- Elements' text, and that they come back. -/
def LB (l : List J) (d : Nat) (obj : Bool) (ks : List ByteArray) (fst : Bool) (tx : List UInt8) : Prop :=
  (fst = true → tx = [] ∨ (isW (hd0 tx) = false ∧ hd0 tx ≠ 93 ∧ hd0 tx ≠ 125)) ∧ (fst = false → tx = [] ∨ hd0 tx = 44) ∧
  ∀ (s : ByteArray) (i : Nat) (r : List UInt8) (f : Nat) (L : List J) (K : List ByteArray), Suf s i (tx ++ (if obj then 125 else 93) :: r) → tx.length < f → (obj = true → ks.length = l.length ∧ keysF K ks = true) →
    elemsP (valP s d) s obj f i fst L K = .ok (L ++ norms l, if obj then K ++ ks else K, i + tx.length + 1)
theorem lb_nil (d : Nat) (obj : Bool) (ks : List ByteArray) (fst : Bool) : LB [] d obj ks fst [] := by
  refine ⟨fun _ => .inl rfl, fun _ => .inl rfl, fun s i r f L K h hf hk => ?_⟩
  obtain ⟨g, rfl⟩ : ∃ g, f = g + 1 := ⟨f - 1, by simp at hf; omega⟩
  have hb := (Suf.head h).1
  rw [norms, List.append_nil]
  cases obj with
  | true =>
    have hks : ks = [] := List.length_eq_zero_iff.1 (hk rfl).1
    subst hks
    have hb : bA s i = 125 := hb
    rw [el_end (by rw [hb]; rfl), if_pos rfl, List.append_nil]
    rfl
  | false =>
    have hb : bA s i = 93 := hb
    rw [el_end (by rw [hb]; rfl)]
    rfl
theorem rest_hd {l : List J} {d : Nat} {obj : Bool} {ks : List ByteArray} {tx : List UInt8} (h : LB l d obj ks false tx) (r : List UInt8) : hd0 (tx ++ (if obj then 125 else 93) :: r) = 44 ∨ hd0 (tx ++ (if obj then 125 else 93) :: r) = 93 ∨ hd0 (tx ++ (if obj then 125 else 93) :: r) = 125 := by
  rcases h.2.1 rfl with e | e
  · subst e
    cases obj
    · exact .inr (.inl rfl)
    · exact .inr (.inr rfl)
  · cases tx with
    | nil => simp [hd0] at e
    | cons c q => exact .inl e
theorem lb_cons {j : J} {l : List J} {d : Nat} {obj : Bool} {ks : List ByteArray} {fst : Bool} {tj tr : List UInt8} (hj : VB j d tj) (hr : LB l d obj ks.tail false tr) (hv : obj = true → validB (ks.headD ⟨#[]⟩) = true) :
    LB (j :: l) d obj ks fst ((if fst then [] else [44]) ++ ((if obj then quoteL (ks.headD ⟨#[]⟩) ++ [58] else []) ++ (tj ++ tr))) := by
  have hmid : ∀ r, hd0 ((if obj then quoteL (ks.headD ⟨#[]⟩) ++ [58] else []) ++ (tj ++ tr) ++ r) = if obj then 34 else hd0 tj := fun r => by
    cases obj
    · show hd0 (([] ++ (tj ++ tr)) ++ r) = hd0 tj
      rw [List.nil_append, List.append_assoc, hd0_lt hj.pos]
    · rfl
  have hmw : isW (if obj then 34 else hd0 tj) = false ∧ (if obj then 34 else hd0 tj) ≠ 93 ∧ (if obj then 34 else hd0 tj) ≠ 125 := by
    cases obj
    · exact ⟨hj.hw, hj.h93, hj.h125⟩
    · exact ⟨rfl, by show (34 : Nat) ≠ 93; decide, by show (34 : Nat) ≠ 125; decide⟩
  refine ⟨fun e => ?_, fun e => ?_, fun s i r f L K h hf hk => ?_⟩
  · subst e
    right
    have := hmid []
    rw [List.append_nil] at this
    rw [if_pos rfl, List.nil_append, this]
    exact hmw
  · subst e
    exact .inr rfl
  · obtain ⟨g, rfl⟩ : ∃ g, f = g + 1 := ⟨f - 1, by omega⟩
    -- the comma
    obtain ⟨i0, hi0, hs0, hne, hcm⟩ : ∃ i0, (if fst then i else whiteE s (i + 1)) = i0 ∧ Suf s i0 ((if obj then quoteL (ks.headD ⟨#[]⟩) ++ [58] else []) ++ (tj ++ tr) ++ (if obj then 125 else 93) :: r) ∧ (bA s i ≠ 93 ∧ bA s i ≠ 125) ∧ ¬ (fst = false ∧ bA s i ≠ 44) ∧ i0 = i + (if fst then ([] : List UInt8) else [44]).length := by
      cases fst with
      | true =>
        have h : Suf s i ((if obj then quoteL (ks.headD ⟨#[]⟩) ++ [58] else []) ++ (tj ++ tr) ++ (if obj then 125 else 93) :: r) := h
        have hb := h.hd
        rw [hmid] at hb
        exact ⟨i, rfl, h, by rw [hb]; exact hmw.2, by simp, rfl⟩
      | false =>
        obtain ⟨hb, hs⟩ := Suf.head h
        have hb : bA s i = 44 := hb
        have hs : Suf s (i + 1) ((if obj then quoteL (ks.headD ⟨#[]⟩) ++ [58] else []) ++ (tj ++ tr) ++ (if obj then 125 else 93) :: r) := hs
        exact ⟨i + 1, white_hd hs (by rw [hmid]; exact hmw.1), hs, by omega, by simp [hb], rfl⟩
    obtain ⟨hnc, hlen⟩ := hcm
    have hrd := rest_hd hr r
    have hrw : isW (hd0 (tr ++ (if obj then 125 else 93) :: r)) = false ∧ isD (hd0 (tr ++ (if obj then 125 else 93) :: r)) = false := by
      rcases hrd with e | e | e <;> (rw [e]; decide)
    rw [List.length_append, List.length_append, List.length_append] at hf
    cases obj with
    | false =>
      have hs1 : Suf s i0 (tj ++ (tr ++ 93 :: r)) := by
        have e : ([] ++ (tj ++ tr) ++ 93 :: r) = tj ++ (tr ++ 93 :: r) := by rw [List.nil_append, List.append_assoc]
        rw [← e]
        exact hs0
      have hs2 := hs1.app
      rw [el_list hne.1 hnc, hi0, hj.back s i0 _ hs1 hrw.2]
      show elemsP (valP s d) s false g (whiteE s (i0 + tj.length)) false (L ++ [norm j]) K = _
      rw [white_hd hs2 hrw.1, hr.2.2 s (i0 + tj.length) r g (L ++ [norm j]) K hs2 (by have := hj.pos; omega) (by intro e; cases e), norms, List.append_assoc]
      have hz : i0 + tj.length + tr.length + 1 = i + ((if fst then ([] : List UInt8) else [44]) ++ ([] ++ (tj ++ tr))).length + 1 := by
        rw [List.length_append, List.nil_append, List.length_append, hlen]; omega
      rw [hz]
      rfl
    | true =>
      obtain ⟨hkl, hkf⟩ := hk rfl
      cases ks with
      | nil => simp at hkl
      | cons k ks =>
        have hs1 : Suf s i0 (quoteL k ++ (58 :: (tj ++ (tr ++ 125 :: r)))) := by
          have e : (quoteL k ++ [58] ++ (tj ++ tr) ++ 125 :: r) = quoteL k ++ (58 :: (tj ++ (tr ++ 125 :: r))) := by simp [List.append_assoc]
          rw [← e]
          exact hs0
        have hvk : validB k = true := hv rfl
        have hs2 := hs1.app
        obtain ⟨hb58, hs3⟩ := Suf.head hs2
        have hb58 : bA s (i0 + (quoteL k).length) = 58 := hb58
        have hs4 := hs3.app
        rw [keysF_step, Bool.and_eq_true, Bool.and_eq_true] at hkf
        obtain ⟨⟨hkc, _⟩, hkr⟩ := hkf
        rw [el_obj hne.2 hnc, hi0, text_back hvk hs1]
        have hkc2 : K.contains k = false := by simpa using hkc
        have hw1 : whiteE s (i0 + (quoteL k).length) = i0 + (quoteL k).length := white_hd hs2 rfl
        have hw2 : whiteE s (i0 + (quoteL k).length + 1) = i0 + (quoteL k).length + 1 := white_hd hs3 (by rw [hd0_lt hj.pos]; exact hj.hw)
        simp only [hkc2, Bool.false_eq_true, if_false, hw1, hb58, ne_eq, not_true, hw2]
        rw [hj.back s _ _ hs3 hrw.2]
        show elemsP (valP s d) s true g (whiteE s (i0 + (quoteL k).length + 1 + tj.length)) false (L ++ [norm j]) (K ++ [k]) = _
        rw [white_hd hs4 hrw.1, hr.2.2 s _ r g (L ++ [norm j]) (K ++ [k]) hs4 (by have := hj.pos; omega) (fun _ => ⟨by simp at hkl; exact hkl, hkr⟩), norms, List.append_assoc]
        have hz : i0 + (quoteL k).length + 1 + tj.length + tr.length + 1 = i + ((if fst then ([] : List UInt8) else [44]) ++ (quoteL k ++ [58] ++ (tj ++ tr))).length + 1 := by
          simp only [List.length_append, List.length_cons, List.length_nil]
          rw [hlen]; omega
        rw [hz]
        simp only [if_pos, List.append_assoc]
        rfl
mutual
theorem val_back : ∀ (j : J) (d : Nat) (out o : List UInt8), FineJ j → prV j d out = .ok o → ∃ tx, o = out ++ tx ∧ VB j d tx
  | .mk k b n s l ks, d, out, o, hf, h => by
    rw [FineJ] at hf
    rw [prV] at h
    split at h
    · rename_i hk; subst hk
      exact ⟨_, (addE_inv h).1, vb_null d⟩
    · split at h
      · rename_i hk; subst hk
        exact ⟨_, (addE_inv h).1, vb_bool d⟩
      · split at h
        · rename_i hk; subst hk
          exact ⟨_, (addE_inv h).1, vb_num d hf.2.1.2.1 hf.2.1.2.2⟩
        · split at h
          · rename_i hk; subst hk
            obtain ⟨hv, e⟩ := textW_inv h
            exact ⟨_, e, vb_text d hv⟩
          · split at h
            · rename_i hk; subst hk
              split at h
              · cases h
              · rename_i hd
                obtain ⟨o1, h1, h⟩ := andE_inv h
                obtain ⟨o2, h2, h⟩ := andE_inv h
                obtain ⟨e1, _⟩ := addE_inv h1
                obtain ⟨tx, e2, hlb⟩ := list_back l (d - 1) false ks true o1 o2 hf.2.2.2.2 h2 (by intro e; cases e)
                obtain ⟨e3, _⟩ := addE_inv h
                refine ⟨91 :: (tx ++ [93]), by rw [e3, e2, e1]; simp [List.append_assoc], by simp, rfl, by show (91 : Nat) ≠ 93; decide, by show (91 : Nat) ≠ 125; decide, fun s i r hs _ => ?_⟩
                have hb : bA s i = 91 := (Suf.head hs).1
                have hs1 : Suf s (i + 1) (tx ++ 93 :: r) := by
                  have e : (tx ++ [93]).append r = tx ++ 93 :: r := by show (tx ++ [93]) ++ r = _; rw [List.append_assoc]; rfl
                  rw [← e]; exact (Suf.head hs).2
                obtain ⟨d, rfl⟩ : ∃ q, d = q + 1 := ⟨d - 1, by omega⟩
                have hw : whiteE s (i + 1) = i + 1 := white_hd hs1 (by
                  rcases hlb.1 rfl with e | e
                  · subst e; rfl
                  · cases tx with
                    | nil => rfl
                    | cons c q => exact e.1)
                have hle := hs1.le
                rw [List.length_append] at hle
                have := hlb.2.2 s (i + 1) r (s.size + 1) [] [] hs1 (by omega) (by intro e; cases e)
                have hv : valP s (d + 1) i = (match elemsP (valP s d) s false (s.size + 1) (i + 1) true [] [] with | .error e => .error e | .ok (l, ks, j) => .ok (.mk 4 false 0 ⟨#[]⟩ l ks, j)) := by
                  rw [valP, if_pos (Or.inl hb), hb, hw]
                  rfl
                rw [show d + 1 - 1 = d from rfl] at this
                rw [hv, this]
                have hz : i + 1 + tx.length + 1 = i + (91 :: (tx ++ [93])).length := by simp only [List.length_cons, List.length_append, List.length_nil]; omega
                rw [hz, norm]
                rfl
            · split at h
              · rename_i hk; subst hk
                split at h
                · cases h
                · split at h
                  · rename_i hd hkk
                    obtain ⟨o1, h1, h⟩ := andE_inv h
                    obtain ⟨o2, h2, h⟩ := andE_inv h
                    obtain ⟨e1, _⟩ := addE_inv h1
                    obtain ⟨tx, e2, hlb⟩ := list_back l (d - 1) true ks true o1 o2 hf.2.2.2.2 h2 (fun _ => hkk.1)
                    obtain ⟨e3, _⟩ := addE_inv h
                    refine ⟨123 :: (tx ++ [125]), by rw [e3, e2, e1]; simp [List.append_assoc], by simp, rfl, by show (123 : Nat) ≠ 93; decide, by show (123 : Nat) ≠ 125; decide, fun s i r hs _ => ?_⟩
                    have hb : bA s i = 123 := (Suf.head hs).1
                    have hs1 : Suf s (i + 1) (tx ++ 125 :: r) := by
                      have e : (tx ++ [125]).append r = tx ++ 125 :: r := by show (tx ++ [125]) ++ r = _; rw [List.append_assoc]; rfl
                      rw [← e]; exact (Suf.head hs).2
                    obtain ⟨d, rfl⟩ : ∃ q, d = q + 1 := ⟨d - 1, by omega⟩
                    have hw : whiteE s (i + 1) = i + 1 := white_hd hs1 (by
                      rcases hlb.1 rfl with e | e
                      · subst e; rfl
                      · cases tx with
                        | nil => rfl
                        | cons c q => exact e.1)
                    have hle := hs1.le
                    rw [List.length_append] at hle
                    have := hlb.2.2 s (i + 1) r (s.size + 1) [] [] hs1 (by omega) (fun _ => hkk)
                    have hv : valP s (d + 1) i = (match elemsP (valP s d) s true (s.size + 1) (i + 1) true [] [] with | .error e => .error e | .ok (l, ks, j) => .ok (.mk 5 false 0 ⟨#[]⟩ l ks, j)) := by
                      rw [valP, if_pos (Or.inr hb), hb, hw]
                      rfl
                    rw [show d + 1 - 1 = d from rfl] at this
                    rw [hv, this]
                    have hz : i + 1 + tx.length + 1 = i + (123 :: (tx ++ [125])).length := by simp only [List.length_cons, List.length_append, List.length_nil]; omega
                    rw [hz, norm]
                    rfl
                  · cases h
              · cases h
theorem list_back : ∀ (l : List J) (d : Nat) (obj : Bool) (ks : List ByteArray) (fst : Bool) (out o : List UInt8), FineJs l → prL l d obj ks fst out = .ok o → (obj = true → ks.length = l.length) → ∃ tx, o = out ++ tx ∧ LB l d obj ks fst tx
  | [], d, obj, ks, fst, out, o, _, h, _ => by
    rw [prL] at h
    injection h with h
    exact ⟨[], by rw [List.append_nil, h], lb_nil d obj ks fst⟩
  | j :: r, d, obj, ks, fst, out, o, hf, h, hk => by
    rw [FineJs] at hf
    rw [prL_cons] at h
    obtain ⟨o1, h1, h⟩ := andE_inv h
    obtain ⟨o2, h2, h⟩ := andE_inv h
    obtain ⟨o3, h3, h⟩ := andE_inv h
    obtain ⟨tj, e3, hj⟩ := val_back j d o2 o3 hf.1 h3
    obtain ⟨tr, e4, hr⟩ := list_back r d obj ks.tail false o3 o hf.2 h (fun e => by have := hk e; rw [List.length_tail, this]; simp)
    have e1 : o1 = out ++ (if fst then [] else [44]) := by
      cases fst
      · exact (addE_inv h1).1
      · simp at h1; rw [← h1]; simp
    have e2 : o2 = o1 ++ (if obj then quoteL (ks.headD ⟨#[]⟩) ++ [58] else []) ∧ (obj = true → validB (ks.headD ⟨#[]⟩) = true) := by
      cases obj
      · simp at h2; exact ⟨by rw [← h2]; simp, fun e => by cases e⟩
      · have h2 : andE (textW (ks.headD ⟨#[]⟩) o1) (fun o => addE o [58]) = .ok o2 := h2
        obtain ⟨o5, h5, h6⟩ := andE_inv h2
        obtain ⟨hv, e5⟩ := textW_inv h5
        exact ⟨by rw [(addE_inv h6).1, e5, List.append_assoc]; rfl, fun _ => hv⟩
    exact ⟨_, by rw [e4, e3, e2.1, e1, List.append_assoc, List.append_assoc, List.append_assoc], lb_cons hj hr e2.2⟩
end
end Go.Proofs.YtoibfefalflooaaDoor
