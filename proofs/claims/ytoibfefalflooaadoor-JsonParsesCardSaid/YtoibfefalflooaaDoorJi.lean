/-
  The program's parser: a text.
-/
import Derived.Test.YtoibfefalflooaaDoorJh
import Derived.Test.YtoibfefalflooaaDoorJf
import Derived.Lib.AppendStr
namespace Go.Proofs.YtoibfefalflooaaDoor
open Go.RowKit

theorem bytes_flat (l : List UInt8) : (byteCells l).flatten = l.map fun b => Value.int .u8 (b.toNat : Int) := by
  induction l with
  | nil => rfl
  | cons a r ih => rw [byteCells, List.map_cons, List.flatten_cons, List.map_cons, ← ih]; rfl
theorem wp_append_str {w : World} {o : Oper} {a : Act} {K : Act → World → Prop} {Q : Exit → Act → World → Prop} (sl x : Operand)
    (ho : o.op = .call { callee := .builtin .append, args := #[sl, x], argTypes := #[47, 9] })
    {base : Nat} {v : Value} {l : List UInt8} (hs : a.eval sl = v) (hown : Own w base 5 1 v (byteCells l)) {s : ByteArray} (hx : a.eval x = .string s)
    (hlen : l.length + s.size ≤ 140737488355328) (hbase : base ≤ w.heap.size) {N : Nat} (hN : l.length + s.size = N)
    (h : ∀ (A' : Option Addr) (cap' : Nat) w', Own w' base 5 1 (.slice A' N cap') (byteCells (l ++ s.data.toList)) → w.grownBy w' v.ownBlock → Below base w w' → K (a.put o.dst (.slice A' N cap')) w') : Oper.wp Tryd.prog o a w K Q := by
  obtain ⟨i, hi, hz, hsize, hby⟩ := info_parts (show (Tryd.prog.info? 5).map (fun i => (i.zero, i.size, i.bytes)) = some (some (.int .u8 0), 1, 1) by kernel_rfl)
  have hcl : (byteCells l).length = l.length := by rw [byteCells, List.length_map]
  obtain ⟨v', w', hrun, h2, h3, _⟩ := Go.Lib.run_append_own_string (P := Tryd.prog) w base 47 9 o.type 5 i Tryd.underlying47 Tryd.underlying9 hi hz hsize hby v (byteCells l).length (byteCells l).flatten hown s (by simp only [maxLen]; omega) (by omega) hbase
  unfold Oper.wp execOp
  simp only [ho, resolve, invoke, builtin, Sem.run_bind, Sem.run_pure, Result.andThen_ok, List.map_toArray, List.map_cons, List.map_nil, hs, hx, hrun]
  have h2b : Own w' base 5 1 v' (byteCells (l ++ s.data.toList)) := by
    unfold Own
    have e1 : (byteCells (l ++ s.data.toList)).length = (byteCells l).length + s.size := by rw [byteCells, List.length_map, List.length_append, hcl]; rfl
    have e2 : (byteCells (l ++ s.data.toList)).flatten = (byteCells l).flatten ++ Go.Lib.strCells s := by rw [bytes_flat, bytes_flat, List.map_append]; rfl
    rw [e1, e2]
    exact h2
  obtain ⟨A', cap', hv, hc1, hc2, _⟩ := h2b.slice (n := N) (byte_fit _).len (by rw [byteCells, List.length_map, List.length_append, ← hN]; rfl)
  subst hv
  exact h A' cap' w' h2b h3 (below_of_grown hown h3 hbase)
theorem wpList_append_str {w : World} {ops : Array Oper} {rest : List Oper} {o : Oper} {a : Act} {Q : Exit → Act → World → Prop} (hgd : o.guard = none) (sl x : Operand)
    (ho : o.op = .call { callee := .builtin .append, args := #[sl, x], argTypes := #[47, 9] })
    {base : Nat} {v : Value} {l : List UInt8} (hs : a.eval sl = v) (hown : Own w base 5 1 v (byteCells l)) {s : ByteArray} (hx : a.eval x = .string s)
    (hlen : l.length + s.size ≤ 140737488355328) (hbase : base ≤ w.heap.size) {N : Nat} (hN : l.length + s.size = N)
    (h : ∀ (A' : Option Addr) (cap' : Nat) w', Own w' base 5 1 (.slice A' N cap') (byteCells (l ++ s.data.toList)) → w.grownBy w' v.ownBlock → Below base w w' → wpList Tryd.prog ops Q rest (a.put o.dst (.slice A' N cap')) w') : wpList Tryd.prog ops Q (o :: rest) a w :=
  wpList_plain hgd fun _ hK => wp_append_str sl x ho hs hown hx hlen hbase hN fun A' cap' w' h2 h3 h4 => hK _ _ (h A' cap' w' h2 h3 h4)
theorem step_append_str {w : World} {ops : Array Oper} {o : Oper} {a : Act} {K : Act → World → Prop} {Q : Exit → Act → World → Prop} {E : Prop} (hgd : o.guard = none) (sl x : Operand)
    (ho : o.op = .call { callee := .builtin .append, args := #[sl, x], argTypes := #[47, 9] })
    {base : Nat} {v : Value} {l : List UInt8} (hs : a.eval sl = v) (hown : Own w base 5 1 v (byteCells l)) {s : ByteArray} (hx : a.eval x = .string s)
    (hlen : l.length + s.size ≤ 140737488355328) (hbase : base ≤ w.heap.size) {N : Nat} (hN : l.length + s.size = N)
    (h : ∀ (A' : Option Addr) (cap' : Nat) w', Own w' base 5 1 (.slice A' N cap') (byteCells (l ++ s.data.toList)) → w.grownBy w' v.ownBlock → Below base w w' → K (a.put o.dst (.slice A' N cap')) w') :
    if Region.wanted o (yielded ops a.tmps) = true then Oper.wp Tryd.prog o a w K Q else E := by
  have hw : Region.wanted o (yielded ops a.tmps) = true := by simp [Region.wanted, hgd]
  rw [if_pos hw]
  exact wp_append_str sl x ho hs hown hx hlen hbase hN h
theorem bytes_convE {W : World} {A : Option Addr} {c n : Nat} {l : List UInt8} (h : SlAt W W.heap.size 1 A (byteCells l)) (hn : l.length = n) : (convert 47 9 (.slice A n c)).run Tryd.prog W = .ok (.string (ofL l)) W := by
  by_cases hp : 0 < n
  · exact bytes_conv h hn hp
  · obtain rfl : n = 0 := by omega
    obtain rfl : l = [] := List.length_eq_zero_iff.1 hn
    cases A with
    | none => kernel_rfl
    | some p => exact run_convert_bytes_back (P := Tryd.prog) W 47 9 5 p c [] Tryd.underlying47 Tryd.underlying5 Tryd.underlying9 (fun j hj => absurd hj (by simp))
theorem Mv.down {g : Nat} {w w' w'' : World} (h : Mv g w w') (hb : Below w.heap.size w' w'') : Mv g w w'' :=
  ⟨hb.os.trans h.os, hb.tape.trans h.tape, hb.output.trans h.output, Nat.le_trans h.size hb.size, fun i hi hne => (hb.block i hi).trans (h.block i hi hne)⟩
theorem extract_list (s : ByteArray) (i n : Nat) : (s.extract i (i + n)).data.toList = (s.data.toList.drop i).take n := by
  rw [ByteArray.data_extract, Array.toList_extract, List.extract, Nat.add_sub_cancel_left]
theorem textN_quote {s : ByteArray} {f i : Nat} {l : List UInt8} (h : bA s i = 34) : textN s (f + 1) i l = some (l, i + 1) := by rw [textN, if_pos h]
theorem textN_stroke {s : ByteArray} {f i : Nat} {l : List UInt8} (h : bA s i = 92) : textN s (f + 1) i l = (match escP s (i + 1) with | none => none | some (m, j) => textN s f j (l ++ m)) := by rw [textN, if_neg (by omega), if_pos h]; cases escP s (i + 1) <;> rfl
theorem textN_bad {s : ByteArray} {f i : Nat} {l : List UInt8} (h : bA s i ≠ 34 ∧ bA s i ≠ 92) (hr : (runeT s i).2 = 0 ∨ (runeT s i).1 < 32) : textN s (f + 1) i l = none := by rw [textN, if_neg h.1, if_neg h.2, if_pos hr]
theorem textN_rune {s : ByteArray} {f i : Nat} {l : List UInt8} (h : bA s i ≠ 34 ∧ bA s i ≠ 92) (hr : ¬ ((runeT s i).2 = 0 ∨ (runeT s i).1 < 32)) : textN s (f + 1) i l = textN s f (i + (runeT s i).2.toNat) (l ++ (s.data.toList.drop i).take (runeT s i).2.toNat) := by rw [textN, if_neg h.1, if_neg h.2, if_neg hr]
/-- How a text that must be there ends. -/
def TextR (g : Nat) (s : ByteArray) (r : Option (ByteArray × Nat)) (e : Ending) (w' : World) : Prop :=
  match r with
  | some (t, j) => e = .returned (.string t) ∧ Pr w' g s j ∧ j ≤ s.size
  | none => e = .panicked [{ v := fault 300, recovered := false }]

set_option maxRecDepth 100000 in
set_option maxHeartbeats 16000000 in
theorem jtext_any (g : Nat) (s : ByteArray) (i : Nat) (r : Option (ByteArray × Nat)) (w : World) (h : Pr w g s i) (hi : i ≤ s.size) (hr : textP s i = r) (hs : s.size ≤ 65536) :
    Calls Tryd.prog 34 #[.pointer (some ⟨g, 0, none⟩)] w fun e w' => TextR g s r e w' ∧ Mv g w w' := by
  by_cases hq : bA s i = 34
  · have hin : i < s.size := bA_lt (by omega)
    have hlb := h.lt
    have TK := hide (jtake_yes g s i 34 w h hin (by rw [← bA_at hin, hq]; rfl) hs)
    obtain ⟨R, hR⟩ : ∃ R, textN s (s.size + 1) (i + 1) [] = R := ⟨_, rfl⟩
    have HR : Hid (r = R.map fun p => (ofL p.1, p.2)) := by show _ = _; rw [← hr, textP, if_pos hq, hR]; cases R <;> rfl
    have HT := hide hR
    have NX := hide (fun (j : Nat) (hj : j ≤ s.size) w' (hp : Pr w' g s j) => jnext_any g s j w' hp hj hs)
    clear h hq hr hR
    go_enter Tryd.func34, Tryd.ntmps34
    go_wp2_with (go_at_call 52; (with_reducible refine TK.out.mono ?_); rintro e w2 ⟨rfl, hb2, hm2⟩)
    have HB := hide hb2
    have HM := hide hm2
    have hz := hm2.size
    clear hb2 hm2
    go_loopw [3, 4, 5, 25] (fun ov _ _ _ wr => ∃ (f k n c : Nat) (A : Option Addr) (l : List UInt8), i + 1 ≤ k ∧ k ≤ s.size ∧ s.size + 1 ≤ f + (k - i) ∧ ov = .slice A n c ∧ Hid (l.length = n) ∧ n ≤ 4 * k ∧ Hid (textN s f k l = R) ∧ Own wr w.heap.size 5 1 (.slice A n c) (byteCells l) ∧ Pr wr g s k ∧ Mv g w wr) (fun _ _ _ _ wr => s.size - posOf (wr.cell? ⟨g, 1, none⟩))
    case atStart => exact ⟨s.size + 1, i + 1, 0, 0, none, [], by omega, by omega, by omega, rfl, rfl, by omega, HT.out, Own.nil_ _ _ _ _, HB.out, HM.out⟩
    case round =>
      obtain ⟨f, k, n, c, A, l, hik, hk, hf, rfl, HL, hn, HTX, hown, hb, hmv⟩ := hrel
      clear HB HM hz
      have HB := hide hb; have HM := hide hmv; have HO := hide hown
      have hz := hmv.size
      clear hb hmv hown
      obtain ⟨wo, rfl⟩ : ∃ x : World, x = wr := ⟨_, rfl⟩
      obtain ⟨f, rfl⟩ : ∃ q, f = q + 1 := ⟨f - 1, by omega⟩
      have NK := NX.out k hk
      have hcb := bA_bd s k
      by_cases hq : bA s k = 34
      · have hkk : k < s.size := bA_lt (by omega)
        have HRS : Hid (r = some (ofL l, k + 1)) := by show _ = _; rw [HR.out, ← HTX.out, textN_quote hq]; rfl
        rw [hq] at NK
        have NK := hide NK
        clear hq hcb
        go_upto_region 12 with (go_at_call 32; (with_reducible refine (NK.out _ (HB.out.fut)).mono ?_); rintro e w6 ⟨rfl, hs6⟩; have b5 := HB.out.fut (w' := w6); obtain ⟨q0, q1⟩ := At.z2 b5.at0; have lq := b5.lt; have fq := b5.free; have HB6 := hide b5; clear b5)
        have HM6 : Hid (Mv g w w6) := HM.out.fut
        have HO6 := hide (HO.out.fut (w' := w6))
        go_upto_region 13 with fail
        have HB7 : Hid (Pr (w6.setCell ⟨g, 1, none⟩ (.int .i64 ((k : Int) + 1))) g s (k + 1)) := Pr.put HB6.out (by omega)
        have HM7 : Hid (Mv g w (w6.setCell ⟨g, 1, none⟩ (.int .i64 ((k : Int) + 1)))) := HM6.out.put _
        have HO7 : Hid (Own (w6.setCell ⟨g, 1, none⟩ (.int .i64 ((k : Int) + 1))) w.heap.size 5 1 (.slice A n c) (byteCells l)) := HO6.out.set_other HB6.out (by decide) 1 _
        obtain ⟨X, hX⟩ : ∃ x : World, x = w6.setCell ⟨g, 1, none⟩ (.int .i64 ((k : Int) + 1)) := ⟨_, rfl⟩
        rw [← hX] at HB7 HM7 HO7
        rw [← hX]
        clear hX q0 q1 lq fq HB6 HO6 HM6
        have hcv := bytes_convE (c := c) (HO7.out.sl (byte_fit _).len) HL.out
        obtain ⟨t, ht⟩ : ∃ t, ofL l = t := ⟨_, rfl⟩
        rw [ht] at hcv HRS
        clear ht
        go_wp2_with fail
        go_ret
        exact ⟨by rw [HRS.out]; exact ⟨rfl, HB7.out.fut, by omega⟩, HM7.out.fut⟩
      have hqb : ((bA s k : Int) == 34) = false := beq_eq_false_iff_ne.2 (by omega)
      by_cases hst : bA s k = 92
      · have hkk : k < s.size := bA_lt (by omega)
        have hkn : k + 1 ≤ s.size := by omega
        have HTS : Hid ((match escP s (k + 1) with | none => none | some (m, j) => textN s f j (l ++ m)) = R) := by show _ = _; rw [← HTX.out, textN_stroke hst]
        rw [hst] at NK
        have NK := hide NK
        clear hq hqb hcb hst
        cases he : escP s (k + 1) with
        | none =>
          have HRN : Hid (r = none) := by show _ = _; rw [HR.out, ← HTS.out, he]; rfl
          have ES : Hid (∀ w', Pr w' g s (k + 1) → Calls Tryd.prog 53 #[.pointer (some ⟨g, 0, none⟩)] w' fun e w'' => e = .panicked [{ v := fault 300, recovered := false }] ∧ Mv g w' w'') := fun w' hp => jesc_any g s (k + 1) none w' hp hkn he hs
          clear he HTS HTX
          go_upto_region 6 with (first | (go_at_call 32; (with_reducible refine (NK.out _ (HB.out.fut)).mono ?_); rintro e w7 ⟨rfl, hs7⟩; clear q0 q1 lq fq HB6; have b5 := HB.out.fut (w' := w7); obtain ⟨q0, q1⟩ := At.z2 b5.at0; have lq := b5.lt; have fq := b5.free; have HB6 := hide b5; clear b5) | (go_at_call 32; (with_reducible refine (NK.out _ (HB.out.fut)).mono ?_); rintro e w6 ⟨rfl, hs6⟩; have b5 := HB.out.fut (w' := w6); obtain ⟨q0, q1⟩ := At.z2 b5.at0; have lq := b5.lt; have fq := b5.free; have HB6 := hide b5; clear b5))
          have HM6 : Hid (Mv g w w7) := HM.out.fut
          have HO6 := hide (HO.out.fut (w' := w7))
          have HB6 := hide (HB.out.fut (w' := w7))
          have HB7 : Hid (Pr (w7.setCell ⟨g, 1, none⟩ (.int .i64 ((k : Int) + 1))) g s (k + 1)) := Pr.put HB6.out (by omega)
          have HM7 : Hid (Mv g w (w7.setCell ⟨g, 1, none⟩ (.int .i64 ((k : Int) + 1)))) := HM6.out.put _
          have HO7 : Hid (Own (w7.setCell ⟨g, 1, none⟩ (.int .i64 ((k : Int) + 1))) w.heap.size 5 1 (.slice A n c) (byteCells l)) := HO6.out.set_other HB6.out (by decide) 1 _
          obtain ⟨X, hX⟩ : ∃ x : World, x = w7.setCell ⟨g, 1, none⟩ (.int .i64 ((k : Int) + 1)) := ⟨_, rfl⟩
          rw [← hX] at HB7 HM7 HO7
          rw [← hX]
          clear hX q0 q1 lq fq HB6 HO6 HM6
          go_wp2_with (go_at_call 53; (with_reducible refine (ES.out _ HB7.out).mono ?_); rintro e w8 ⟨rfl, hm8⟩)
          exact ⟨rfl, by rw [HRN.out]; rfl, grown_trans HM7.out hm8⟩
        | some mj =>
          obtain ⟨m, j⟩ := mj
          obtain ⟨he1, he2⟩ := esc_len he
          have HTJ : Hid (textN s f j (l ++ m) = R) := by have := HTS.out; rw [he] at this; exact this
          have ES : Hid (∀ w', Pr w' g s (k + 1) → Calls Tryd.prog 53 #[.pointer (some ⟨g, 0, none⟩)] w' fun e w'' => (e = .returned (.string (ofL m)) ∧ Pr w'' g s j ∧ j ≤ s.size) ∧ Mv g w' w'') := fun w' hp => jesc_any g s (k + 1) (some (m, j)) w' hp hkn he hs
          have HMS : Hid ((ofL m).size = m.length) := ofL_size m
          have HML : Hid ((ofL m).data.toList = m) := ofL_list m
          obtain ⟨t, ht⟩ : ∃ t, ofL m = t := ⟨_, rfl⟩
          rw [ht] at ES HMS HML
          clear he HTS HTX ht
          go_upto_region 6 with (first | (go_at_call 32; (with_reducible refine (NK.out _ (HB.out.fut)).mono ?_); rintro e w7 ⟨rfl, hs7⟩; clear q0 q1 lq fq HB6; have b5 := HB.out.fut (w' := w7); obtain ⟨q0, q1⟩ := At.z2 b5.at0; have lq := b5.lt; have fq := b5.free; have HB6 := hide b5; clear b5) | (go_at_call 32; (with_reducible refine (NK.out _ (HB.out.fut)).mono ?_); rintro e w6 ⟨rfl, hs6⟩; have b5 := HB.out.fut (w' := w6); obtain ⟨q0, q1⟩ := At.z2 b5.at0; have lq := b5.lt; have fq := b5.free; have HB6 := hide b5; clear b5))
          have HM6 : Hid (Mv g w w7) := HM.out.fut
          have HO6 := hide (HO.out.fut (w' := w7))
          have HB6 := hide (HB.out.fut (w' := w7))
          have HB7 : Hid (Pr (w7.setCell ⟨g, 1, none⟩ (.int .i64 ((k : Int) + 1))) g s (k + 1)) := Pr.put HB6.out (by omega)
          have HM7 : Hid (Mv g w (w7.setCell ⟨g, 1, none⟩ (.int .i64 ((k : Int) + 1)))) := HM6.out.put _
          have HO7 : Hid (Own (w7.setCell ⟨g, 1, none⟩ (.int .i64 ((k : Int) + 1))) w.heap.size 5 1 (.slice A n c) (byteCells l)) := HO6.out.set_other HB6.out (by decide) 1 _
          obtain ⟨X, hX⟩ : ∃ x : World, x = w7.setCell ⟨g, 1, none⟩ (.int .i64 ((k : Int) + 1)) := ⟨_, rfl⟩
          rw [← hX] at HB7 HM7 HO7
          rw [← hX]
          clear hX q0 q1 lq fq HB6 HO6 HM6
          have hz7 := HM7.out.size
          go_wp2_with (first | (go_at_call 53; (with_reducible refine (ES.out _ HB7.out).mono ?_); rintro e w8 ⟨⟨rfl, hb8, hj8⟩, hm8⟩; have HO8 := hide (HO7.out.grown_other hm8 (fun q hq hh => by have := (HO7.out.lt q hq).1; injection hh with hh; omega)); have HB8 := hide hb8; have HM8 := hide (grown_trans HM7.out hm8); have hz8 := Nat.le_trans hz7 hm8.size; clear hb8 hm8) | (at_builtin; go_loud (refine wpList_append_str rfl (.tmp 21) (.tmp 23) rfl (base := w.heap.size) (l := l) rfl HO8.out (s := t) rfl (by rw [HL.out, HMS.out]; omega) hz8 (N := n + m.length) (by rw [HL.out, HMS.out]) ?_; intro A7 c7 w7 hown7 hgr7 hbel7; have H7 := hide hown7; have HB9 := hide (HB8.out.below hbel7 hlb); have HM9 := hide (Mv.down HM8.out hbel7); clear hown7 hgr7 hbel7)))
          go_roundw
          case rel => exact ⟨f, j, n + m.length, c7, A7, l ++ m, by omega, hj8, by omega, rfl, by show _ = _; rw [List.length_append, HL.out], by omega, HTJ.out, by have h_ := H7.out; rw [HML.out] at h_; exact h_, HB9.out, HM9.out⟩
          case measure =>
            rw [Pr.pos HB9.out, Pr.pos HB.out]
            omega
      have hsb : ((bA s k : Int) == 92) = false := beq_eq_false_iff_ne.2 (by omega)
      have RU := fun w' => urune_any s (k : Int) w' (by omega)
      rw [show runeR s (k : Int) = runeT s k by rw [runeR, if_neg (by omega)]; rfl] at RU
      obtain ⟨hd0, hd1, hd2⟩ := runeT_bd s k
      have HBD := hide (textN_bad (f := f) (l := l) ⟨hq, hst⟩)
      have HRU := hide (textN_rune (f := f) (l := l) ⟨hq, hst⟩)
      obtain ⟨C, hC⟩ : ∃ C : Int, (bA s k : Int) = C := ⟨_, rfl⟩
      rw [hC] at NK hqb hsb
      have NK := hide NK
      clear hC hcb hq hst
      obtain ⟨T, hT⟩ : ∃ T, runeT s k = T := ⟨_, rfl⟩
      rw [hT] at RU hd0 hd1 hd2 HBD HRU
      clear hT
      obtain ⟨rr, nn⟩ := T
      simp only at RU hd0 hd1 hd2
      have RU := hide RU
      have hk0 : (0 : Int) ≤ (k : Int) := by omega
      by_cases hbad : nn = 0 ∨ rr < 32
      · have HRN : Hid (r = none) := by show _ = _; rw [HR.out, ← HTX.out, HBD.out hbad]; rfl
        have hb2 : nn = 0 ∨ ((nn == 0) = false ∧ rr < 32) := by
          by_cases h0 : nn = 0
          · exact .inl h0
          · exact .inr ⟨beq_eq_false_iff_ne.2 h0, by omega⟩
        clear hbad HBD HRU hd2
        go_upto_region 7 with (first | (go_at_call 32; (with_reducible refine (NK.out _ (HB.out.fut)).mono ?_); rintro e w7 ⟨rfl, hs7⟩; clear q0 q1 lq fq HB6; have b5 := HB.out.fut (w' := w7); obtain ⟨q0, q1⟩ := At.z2 b5.at0; have lq := b5.lt; have fq := b5.free; have HB6 := hide b5; clear b5) | (go_at_call 32; (with_reducible refine (NK.out _ (HB.out.fut)).mono ?_); rintro e w6 ⟨rfl, hs6⟩; have b5 := HB.out.fut (w' := w6); obtain ⟨q0, q1⟩ := At.z2 b5.at0; have lq := b5.lt; have fq := b5.free; have HB6 := hide b5; clear b5))
        refine wp_region_held_drew (S := (fun w' => Step w7 w' ∧ (∀ b o, b < w7.heap.size → w'.cell? ⟨b, o, none⟩ = w7.cell? ⟨b, o, none⟩))) (by kernel_rfl) (by (try dsimp only); (first | exact ⟨hS1, hS2⟩ | exact ⟨Step.of, (bcell (fut _ _)).1⟩)) (fun hHeld => ?_)
        refine wpAnyH_take (i := 0) (oi := ⟨some 26, _, _, _, _, _⟩) (v := ?_) rfl (by kernel_rfl) (by kernel_rfl) (by kernel_rfl) (fun _ _ _ h => h) (Or.inl ⟨by rfl, ?_⟩) (by assumption) ?_
        rotate_left
        · ((intro w hSw); (try dsimp only at hSw); go_simp; (try with_reducible rfl))
        (try simp only [Act.put, List.setIfInBounds_toArray, List.set_cons_zero, List.set_cons_succ])
        refine wpAnyH_take (i := 4) (oi := ⟨some 30, _, _, _, _, _⟩) (v := ?_) rfl (by kernel_rfl) (by kernel_rfl) (by kernel_rfl) (fun _ _ _ h => h) (Or.inl ⟨by rfl, ?_⟩) (by assumption) ?_
        rotate_left
        · ((intro w hSw); (try dsimp only at hSw); go_simp; (try with_reducible rfl))
        (try simp only [Act.put, List.setIfInBounds_toArray, List.set_cons_zero, List.set_cons_succ])
        refine wpAnyH_take (i := 1) (oi := ⟨some 27, _, _, _, _, _⟩) (v := ?_) rfl (by kernel_rfl) (by kernel_rfl) (by kernel_rfl) (fun _ _ _ h => h) (Or.inl ⟨by rfl, ?_⟩) (by assumption) ?_
        rotate_left
        · ((intro w hSw); (try dsimp only at hSw); go_simp; (try with_reducible rfl))
        (try simp only [Act.put, List.setIfInBounds_toArray, List.set_cons_zero, List.set_cons_succ])
        refine wpAnyH_take (i := 5) (oi := ⟨some 31, _, _, _, _, _⟩) (v := ?_) rfl (by kernel_rfl) (by kernel_rfl) (by kernel_rfl) (fun _ _ _ h => h) (Or.inl ⟨by rfl, ?_⟩) (by assumption) ?_
        rotate_left
        · ((intro w hSw); (try dsimp only at hSw); go_simp; (try with_reducible rfl))
        (try simp only [Act.put, List.setIfInBounds_toArray, List.set_cons_zero, List.set_cons_succ])
        refine wpAnyH_take (i := 2) (oi := ⟨some 28, _, _, _, _, _⟩) (v := ?_) rfl (by kernel_rfl) (by kernel_rfl) (by kernel_rfl) (fun _ _ _ h => h) (Or.inl ⟨by rfl, ?_⟩) (by assumption) ?_
        rotate_left
        · ((intro w hSw); (try dsimp only at hSw); go_simp; (try with_reducible rfl))
        (try simp only [Act.put, List.setIfInBounds_toArray, List.set_cons_zero, List.set_cons_succ])
        refine wpAnyH_take (i := 6) (oi := ⟨some 32, _, _, _, _, _⟩) (v := ?_) rfl (by kernel_rfl) (by kernel_rfl) (by kernel_rfl) (fun _ _ _ h => h) (Or.inl ⟨by rfl, ?_⟩) (by assumption) ?_
        rotate_left
        · ((intro w hSw); (try dsimp only at hSw); go_simp; (try with_reducible rfl))
        (try simp only [Act.put, List.setIfInBounds_toArray, List.set_cons_zero, List.set_cons_succ])
        refine wpAnyH_take (i := 3) (oi := ⟨some 29, _, _, _, _, _⟩) (v := ?_) rfl (by kernel_rfl) (by kernel_rfl) (by kernel_rfl) (fun _ _ _ h => h) (Or.inl ⟨by rfl, ?_⟩) (by assumption) ?_
        rotate_left
        · ((intro w hSw); (try dsimp only at hSw); go_simp; (try with_reducible rfl))
        (try simp only [Act.put, List.setIfInBounds_toArray, List.set_cons_zero, List.set_cons_succ])
        refine wpAnyH_take (i := 7) (oi := ⟨some 33, _, _, _, _, _⟩) (v := ?_) rfl (by kernel_rfl) (by kernel_rfl) (by kernel_rfl) (fun _ _ _ h => h) (Or.inl ⟨by rfl, ?_⟩) (by assumption) ?_
        rotate_left
        · ((intro w hSw); (try dsimp only at hSw); go_simp; (try with_reducible rfl))
        (try simp only [Act.put, List.setIfInBounds_toArray, List.set_cons_zero, List.set_cons_succ])
        refine wpAnyH_ready (rs := [8]) (by kernel_rfl) (by simp) ?_
        refine AllReadyH.cons (o := ⟨some 34, _, _, _, _, _⟩) rfl (fun K hK => ?_) AllReadyH.nil
        obtain ⟨hS1, hS2⟩ := hHeld
        go_simp
        (go_at_call 54; (with_reducible refine (RU.out _).mono ?_); rintro e w8 ⟨rfl, hs8⟩)
        refine hK.out _ _ (by (try dsimp only); (first | exact ⟨hS1, hS2⟩ | exact ⟨Step.of, (bcell (fut _ _)).1⟩)) (fun hHeld => ?_)
        clear hK K
        (try simp only [Act.put, List.setIfInBounds_toArray, List.set_cons_zero, List.set_cons_succ])
        refine wpAnyH_take (i := 9) (oi := ⟨some 25, _, _, _, _, _⟩) (v := ?_) rfl (by kernel_rfl) (by kernel_rfl) (by kernel_rfl) (fun _ _ _ h => h) (Or.inl ⟨by rfl, ?_⟩) (by assumption) ?_
        rotate_left
        · ((intro w hSw); (try dsimp only at hSw); go_simp; (try with_reducible rfl))
        (try simp only [Act.put, List.setIfInBounds_toArray, List.set_cons_zero, List.set_cons_succ])
        refine wpAnyH_take (i := 10) (oi := ⟨some 35, _, _, _, _, _⟩) (v := ?_) rfl (by kernel_rfl) (by kernel_rfl) (by kernel_rfl) (fun _ _ _ h => h) (Or.inl ⟨by rfl, ?_⟩) (by assumption) ?_
        rotate_left
        · ((intro w hSw); (try dsimp only at hSw); go_simp; (try with_reducible rfl))
        (try simp only [Act.put, List.setIfInBounds_toArray, List.set_cons_zero, List.set_cons_succ])
        refine wpAnyH_take (i := 11) (oi := ⟨some 36, _, _, _, _, _⟩) (v := ?_) rfl (by kernel_rfl) (by kernel_rfl) (by kernel_rfl) (fun _ _ _ h => h) (Or.inl ⟨by rfl, ?_⟩) (by assumption) ?_
        rotate_left
        · ((intro w hSw); (try dsimp only at hSw); go_simp; (try with_reducible rfl))
        (try simp only [Act.put, List.setIfInBounds_toArray, List.set_cons_zero, List.set_cons_succ])
        refine wpAnyH_take (i := 12) (oi := ⟨some 4, _, _, _, _, _⟩) (v := ?_) rfl (by kernel_rfl) (by kernel_rfl) (by kernel_rfl) (fun _ _ _ h => h) (Or.inl ⟨by rfl, ?_⟩) (by assumption) ?_
        rotate_left
        · ((intro w hSw); (try dsimp only at hSw); go_simp; (try with_reducible rfl))
        (try simp only [Act.put, List.setIfInBounds_toArray, List.set_cons_zero, List.set_cons_succ])
        refine wpAnyH_take (i := 13) (oi := ⟨some 5, _, _, _, _, _⟩) (v := ?_) rfl (by kernel_rfl) (by kernel_rfl) (by kernel_rfl) (fun _ _ _ h => h) (Or.inl ⟨by rfl, ?_⟩) (by assumption) ?_
        rotate_left
        · ((intro w hSw); (try dsimp only at hSw); go_simp; (try with_reducible rfl))
        (try simp only [Act.put, List.setIfInBounds_toArray, List.set_cons_zero, List.set_cons_succ])
        refine wpAnyH_done (by kernel_rfl) ?_ _
        rcases hb2 with hb2 | ⟨hb2, hb3⟩
        · subst hb2
          go_wp2_with (go_at_call 23; (with_reducible refine (bad_any _).mono ?_); rintro e w9 ⟨rfl, rfl⟩)
          exact ⟨rfl, by rw [HRN.out]; rfl, HM.out.fut⟩
        · go_wp2_with (go_at_call 23; (with_reducible refine (bad_any _).mono ?_); rintro e w9 ⟨rfl, rfl⟩)
          exact ⟨rfl, by rw [HRN.out]; rfl, HM.out.fut⟩
      · obtain ⟨m, rfl⟩ : ∃ m : Nat, nn = m := ⟨nn.toNat, by omega⟩
        have hkm : k + m ≤ s.size := by have := hd2 (by omega); simpa using this
        have hm0 : ((m : Int) == 0) = false := beq_eq_false_iff_ne.2 (by omega)
        have hm1 : 0 < m := by omega
        have hm4 : m ≤ 4 := by omega
        have hrr : ¬ rr < 32 := by omega
        have HTN : Hid (textN s f (k + m) (l ++ (s.data.toList.drop k).take m) = R) := by have := HRU.out hbad; rw [HTX.out] at this; exact this.symm
        have HEX : Hid ((s.extract k (k + m)).size = m) := by show _ = _; rw [ByteArray.size_extract]; omega
        have HEL : Hid ((s.extract k (k + m)).data.toList = (s.data.toList.drop k).take m) := extract_list s k m
        clear hbad HBD HRU hd0 hd1 hd2 HTX
        go_upto_region 7 with (first | (go_at_call 32; (with_reducible refine (NK.out _ (HB.out.fut)).mono ?_); rintro e w7 ⟨rfl, hs7⟩; clear q0 q1 lq fq HB6; have b5 := HB.out.fut (w' := w7); obtain ⟨q0, q1⟩ := At.z2 b5.at0; have lq := b5.lt; have fq := b5.free; have HB6 := hide b5; clear b5) | (go_at_call 32; (with_reducible refine (NK.out _ (HB.out.fut)).mono ?_); rintro e w6 ⟨rfl, hs6⟩; have b5 := HB.out.fut (w' := w6); obtain ⟨q0, q1⟩ := At.z2 b5.at0; have lq := b5.lt; have fq := b5.free; have HB6 := hide b5; clear b5))
        refine wp_region_held_drew (S := (fun w' => Step w7 w' ∧ (∀ b o, b < w7.heap.size → w'.cell? ⟨b, o, none⟩ = w7.cell? ⟨b, o, none⟩))) (by kernel_rfl) (by (try dsimp only); (first | exact ⟨hS1, hS2⟩ | exact ⟨Step.of, (bcell (fut _ _)).1⟩)) (fun hHeld => ?_)
        refine wpAnyH_take (i := 0) (oi := ⟨some 26, _, _, _, _, _⟩) (v := ?_) rfl (by kernel_rfl) (by kernel_rfl) (by kernel_rfl) (fun _ _ _ h => h) (Or.inl ⟨by rfl, ?_⟩) (by assumption) ?_
        rotate_left
        · ((intro w hSw); (try dsimp only at hSw); go_simp; (try with_reducible rfl))
        (try simp only [Act.put, List.setIfInBounds_toArray, List.set_cons_zero, List.set_cons_succ])
        refine wpAnyH_take (i := 4) (oi := ⟨some 30, _, _, _, _, _⟩) (v := ?_) rfl (by kernel_rfl) (by kernel_rfl) (by kernel_rfl) (fun _ _ _ h => h) (Or.inl ⟨by rfl, ?_⟩) (by assumption) ?_
        rotate_left
        · ((intro w hSw); (try dsimp only at hSw); go_simp; (try with_reducible rfl))
        (try simp only [Act.put, List.setIfInBounds_toArray, List.set_cons_zero, List.set_cons_succ])
        refine wpAnyH_take (i := 1) (oi := ⟨some 27, _, _, _, _, _⟩) (v := ?_) rfl (by kernel_rfl) (by kernel_rfl) (by kernel_rfl) (fun _ _ _ h => h) (Or.inl ⟨by rfl, ?_⟩) (by assumption) ?_
        rotate_left
        · ((intro w hSw); (try dsimp only at hSw); go_simp; (try with_reducible rfl))
        (try simp only [Act.put, List.setIfInBounds_toArray, List.set_cons_zero, List.set_cons_succ])
        refine wpAnyH_take (i := 5) (oi := ⟨some 31, _, _, _, _, _⟩) (v := ?_) rfl (by kernel_rfl) (by kernel_rfl) (by kernel_rfl) (fun _ _ _ h => h) (Or.inl ⟨by rfl, ?_⟩) (by assumption) ?_
        rotate_left
        · ((intro w hSw); (try dsimp only at hSw); go_simp; (try with_reducible rfl))
        (try simp only [Act.put, List.setIfInBounds_toArray, List.set_cons_zero, List.set_cons_succ])
        refine wpAnyH_take (i := 2) (oi := ⟨some 28, _, _, _, _, _⟩) (v := ?_) rfl (by kernel_rfl) (by kernel_rfl) (by kernel_rfl) (fun _ _ _ h => h) (Or.inl ⟨by rfl, ?_⟩) (by assumption) ?_
        rotate_left
        · ((intro w hSw); (try dsimp only at hSw); go_simp; (try with_reducible rfl))
        (try simp only [Act.put, List.setIfInBounds_toArray, List.set_cons_zero, List.set_cons_succ])
        refine wpAnyH_take (i := 6) (oi := ⟨some 32, _, _, _, _, _⟩) (v := ?_) rfl (by kernel_rfl) (by kernel_rfl) (by kernel_rfl) (fun _ _ _ h => h) (Or.inl ⟨by rfl, ?_⟩) (by assumption) ?_
        rotate_left
        · ((intro w hSw); (try dsimp only at hSw); go_simp; (try with_reducible rfl))
        (try simp only [Act.put, List.setIfInBounds_toArray, List.set_cons_zero, List.set_cons_succ])
        refine wpAnyH_take (i := 3) (oi := ⟨some 29, _, _, _, _, _⟩) (v := ?_) rfl (by kernel_rfl) (by kernel_rfl) (by kernel_rfl) (fun _ _ _ h => h) (Or.inl ⟨by rfl, ?_⟩) (by assumption) ?_
        rotate_left
        · ((intro w hSw); (try dsimp only at hSw); go_simp; (try with_reducible rfl))
        (try simp only [Act.put, List.setIfInBounds_toArray, List.set_cons_zero, List.set_cons_succ])
        refine wpAnyH_take (i := 7) (oi := ⟨some 33, _, _, _, _, _⟩) (v := ?_) rfl (by kernel_rfl) (by kernel_rfl) (by kernel_rfl) (fun _ _ _ h => h) (Or.inl ⟨by rfl, ?_⟩) (by assumption) ?_
        rotate_left
        · ((intro w hSw); (try dsimp only at hSw); go_simp; (try with_reducible rfl))
        (try simp only [Act.put, List.setIfInBounds_toArray, List.set_cons_zero, List.set_cons_succ])
        refine wpAnyH_ready (rs := [8]) (by kernel_rfl) (by simp) ?_
        refine AllReadyH.cons (o := ⟨some 34, _, _, _, _, _⟩) rfl (fun K hK => ?_) AllReadyH.nil
        obtain ⟨hS1, hS2⟩ := hHeld
        go_simp
        (go_at_call 54; (with_reducible refine (RU.out _).mono ?_); rintro e w8 ⟨rfl, hs8⟩)
        refine hK.out _ _ (by (try dsimp only); (first | exact ⟨hS1, hS2⟩ | exact ⟨Step.of, (bcell (fut _ _)).1⟩)) (fun hHeld => ?_)
        clear hK K
        (try simp only [Act.put, List.setIfInBounds_toArray, List.set_cons_zero, List.set_cons_succ])
        refine wpAnyH_take (i := 9) (oi := ⟨some 25, _, _, _, _, _⟩) (v := ?_) rfl (by kernel_rfl) (by kernel_rfl) (by kernel_rfl) (fun _ _ _ h => h) (Or.inl ⟨by rfl, ?_⟩) (by assumption) ?_
        rotate_left
        · ((intro w hSw); (try dsimp only at hSw); go_simp; (try with_reducible rfl))
        (try simp only [Act.put, List.setIfInBounds_toArray, List.set_cons_zero, List.set_cons_succ])
        refine wpAnyH_take (i := 10) (oi := ⟨some 35, _, _, _, _, _⟩) (v := ?_) rfl (by kernel_rfl) (by kernel_rfl) (by kernel_rfl) (fun _ _ _ h => h) (Or.inl ⟨by rfl, ?_⟩) (by assumption) ?_
        rotate_left
        · ((intro w hSw); (try dsimp only at hSw); go_simp; (try with_reducible rfl))
        (try simp only [Act.put, List.setIfInBounds_toArray, List.set_cons_zero, List.set_cons_succ])
        refine wpAnyH_take (i := 11) (oi := ⟨some 36, _, _, _, _, _⟩) (v := ?_) rfl (by kernel_rfl) (by kernel_rfl) (by kernel_rfl) (fun _ _ _ h => h) (Or.inl ⟨by rfl, ?_⟩) (by assumption) ?_
        rotate_left
        · ((intro w hSw); (try dsimp only at hSw); go_simp; (try with_reducible rfl))
        (try simp only [Act.put, List.setIfInBounds_toArray, List.set_cons_zero, List.set_cons_succ])
        refine wpAnyH_take (i := 12) (oi := ⟨some 4, _, _, _, _, _⟩) (v := ?_) rfl (by kernel_rfl) (by kernel_rfl) (by kernel_rfl) (fun _ _ _ h => h) (Or.inl ⟨by rfl, ?_⟩) (by assumption) ?_
        rotate_left
        · ((intro w hSw); (try dsimp only at hSw); go_simp; (try with_reducible rfl))
        (try simp only [Act.put, List.setIfInBounds_toArray, List.set_cons_zero, List.set_cons_succ])
        refine wpAnyH_take (i := 13) (oi := ⟨some 5, _, _, _, _, _⟩) (v := ?_) rfl (by kernel_rfl) (by kernel_rfl) (by kernel_rfl) (fun _ _ _ h => h) (Or.inl ⟨by rfl, ?_⟩) (by assumption) ?_
        rotate_left
        · ((intro w hSw); (try dsimp only at hSw); go_simp; (try with_reducible rfl))
        (try simp only [Act.put, List.setIfInBounds_toArray, List.set_cons_zero, List.set_cons_succ])
        refine wpAnyH_done (by kernel_rfl) ?_ _
        obtain ⟨km, hkme⟩ : ∃ km, km = k + m := ⟨_, rfl⟩
        rw [← hkme] at HTN HEX HEL hkm
        have hwr : IntKind.i64.wrap ((k : Int) + (m : Int)) = (km : Int) := by rw [IntKind.wrap_i64]; omega
        have hx1 : (0 : Int) ≤ (km : Int) := by omega
        have hx2 : (k : Int) ≤ (km : Int) := by omega
        have hx3 : (km : Int) ≤ (s.size : Int) := by omega
        have HKM := hide hkme
        clear hkme
        go_upto_region 10 with fail
        have HB8 := hide (HB.out.fut (w' := w8))
        have HO8 := hide (HO.out.fut (w' := w8))
        have HM8 : Hid (Mv g w w8) := HM.out.fut
        have hz8 := HM8.out.size
        clear q0 q1 lq fq HB6
        obtain ⟨q0, q1⟩ := At.z2 HB8.out.at0
        have lq := HB8.out.lt
        have fq := HB8.out.free
        refine wp_region_held_drew (S := (fun w' => Below w.heap.size w8 w' ∧ (∀ b o, b < w.heap.size → w'.cell? ⟨b, o, none⟩ = w8.cell? ⟨b, o, none⟩))) (by kernel_rfl) (by (try dsimp only); (first | exact ⟨hS1, hS2⟩ | exact ⟨(fut w8 _).mono hz8, fun b o h => ((fut w8 _).mono hz8).cell (p := ⟨b, o, none⟩) h⟩)) (fun hHeld => ?_)
        refine wpAnyH_take (i := 0) (oi := ⟨some 44, _, _, _, _, _⟩) (v := ?_) rfl (by kernel_rfl) (by kernel_rfl) (by kernel_rfl) (fun _ _ _ h => h) (Or.inl ⟨by rfl, ?_⟩) (by assumption) ?_
        rotate_left
        · ((intro w hSw); (try dsimp only at hSw); go_simp; (try with_reducible rfl))
        (try simp only [Act.put, List.setIfInBounds_toArray, List.set_cons_zero, List.set_cons_succ])
        refine wpAnyH_take (i := 1) (oi := ⟨some 45, _, _, _, _, _⟩) (v := ?_) rfl (by kernel_rfl) (by kernel_rfl) (by kernel_rfl) (fun _ _ _ h => h) (Or.inl ⟨by rfl, ?_⟩) (by assumption) ?_
        rotate_left
        · ((intro w hSw); (try dsimp only at hSw); go_simp; (try with_reducible rfl))
        (try simp only [Act.put, List.setIfInBounds_toArray, List.set_cons_zero, List.set_cons_succ])
        refine wpAnyH_take (i := 5) (oi := ⟨some 49, _, _, _, _, _⟩) (v := ?_) rfl (by kernel_rfl) (by kernel_rfl) (by kernel_rfl) (fun _ _ _ h => h) (Or.inl ⟨by rfl, ?_⟩) (by assumption) ?_
        rotate_left
        · ((intro w hSw); (try dsimp only at hSw); go_simp; (try with_reducible rfl))
        (try simp only [Act.put, List.setIfInBounds_toArray, List.set_cons_zero, List.set_cons_succ])
        refine wpAnyH_take (i := 9) (oi := ⟨some 53, _, _, _, _, _⟩) (v := ?_) rfl (by kernel_rfl) (by kernel_rfl) (by kernel_rfl) (fun _ _ _ h => h) (Or.inl ⟨by rfl, ?_⟩) (by assumption) ?_
        rotate_left
        · ((intro w hSw); (try dsimp only at hSw); go_simp; (try with_reducible rfl))
        (try simp only [Act.put, List.setIfInBounds_toArray, List.set_cons_zero, List.set_cons_succ])
        refine wpAnyH_take (i := 13) (oi := ⟨some 57, _, _, _, _, _⟩) (v := ?_) rfl (by kernel_rfl) (by kernel_rfl) (by kernel_rfl) (fun _ _ _ h => h) (Or.inl ⟨by rfl, ?_⟩) (by assumption) ?_
        rotate_left
        · ((intro w hSw); (try dsimp only at hSw); go_simp; (try with_reducible rfl))
        (try simp only [Act.put, List.setIfInBounds_toArray, List.set_cons_zero, List.set_cons_succ])
        refine wpAnyH_take (i := 2) (oi := ⟨some 46, _, _, _, _, _⟩) (v := ?_) rfl (by kernel_rfl) (by kernel_rfl) (by kernel_rfl) (fun _ _ _ h => h) (Or.inl ⟨by rfl, ?_⟩) (by assumption) ?_
        rotate_left
        · ((intro w hSw); (try dsimp only at hSw); go_simp; (try with_reducible rfl))
        (try simp only [Act.put, List.setIfInBounds_toArray, List.set_cons_zero, List.set_cons_succ])
        refine wpAnyH_take (i := 6) (oi := ⟨some 50, _, _, _, _, _⟩) (v := ?_) rfl (by kernel_rfl) (by kernel_rfl) (by kernel_rfl) (fun _ _ _ h => h) (Or.inl ⟨by rfl, ?_⟩) (by assumption) ?_
        rotate_left
        · ((intro w hSw); (try dsimp only at hSw); go_simp; (try with_reducible rfl))
        (try simp only [Act.put, List.setIfInBounds_toArray, List.set_cons_zero, List.set_cons_succ])
        refine wpAnyH_take (i := 10) (oi := ⟨some 54, _, _, _, _, _⟩) (v := ?_) rfl (by kernel_rfl) (by kernel_rfl) (by kernel_rfl) (fun _ _ _ h => h) (Or.inl ⟨by rfl, ?_⟩) (by assumption) ?_
        rotate_left
        · ((intro w hSw); (try dsimp only at hSw); go_simp; (try with_reducible rfl))
        (try simp only [Act.put, List.setIfInBounds_toArray, List.set_cons_zero, List.set_cons_succ])
        refine wpAnyH_take (i := 3) (oi := ⟨some 47, _, _, _, _, _⟩) (v := ?_) rfl (by kernel_rfl) (by kernel_rfl) (by kernel_rfl) (fun _ _ _ h => h) (Or.inl ⟨by rfl, ?_⟩) (by assumption) ?_
        rotate_left
        · ((intro w hSw); (try dsimp only at hSw); go_simp; (try with_reducible rfl))
        (try simp only [Act.put, List.setIfInBounds_toArray, List.set_cons_zero, List.set_cons_succ])
        refine wpAnyH_take (i := 7) (oi := ⟨some 51, _, _, _, _, _⟩) (v := ?_) rfl (by kernel_rfl) (by kernel_rfl) (by kernel_rfl) (fun _ _ _ h => h) (Or.inl ⟨by rfl, ?_⟩) (by assumption) ?_
        rotate_left
        · ((intro w hSw); (try dsimp only at hSw); go_simp; (try with_reducible rfl))
        (try simp only [Act.put, List.setIfInBounds_toArray, List.set_cons_zero, List.set_cons_succ])
        refine wpAnyH_take (i := 11) (oi := ⟨some 55, _, _, _, _, _⟩) (v := ?_) rfl (by kernel_rfl) (by kernel_rfl) (by kernel_rfl) (fun _ _ _ h => h) (Or.inl ⟨by rfl, ?_⟩) (by assumption) ?_
        rotate_left
        · ((intro w hSw); (try dsimp only at hSw); go_simp; (try with_reducible rfl))
        (try simp only [Act.put, List.setIfInBounds_toArray, List.set_cons_zero, List.set_cons_succ])
        refine wpAnyH_take (i := 4) (oi := ⟨some 48, _, _, _, _, _⟩) (v := ?_) rfl (by kernel_rfl) (by kernel_rfl) (by kernel_rfl) (fun _ _ _ h => h) (Or.inl ⟨by rfl, ?_⟩) (by assumption) ?_
        rotate_left
        · ((intro w hSw); (try dsimp only at hSw); go_simp; (try with_reducible rfl))
        (try simp only [Act.put, List.setIfInBounds_toArray, List.set_cons_zero, List.set_cons_succ])
        refine wpAnyH_take (i := 8) (oi := ⟨some 52, _, _, _, _, _⟩) (v := ?_) rfl (by kernel_rfl) (by kernel_rfl) (by kernel_rfl) (fun _ _ _ h => h) (Or.inl ⟨by rfl, ?_⟩) (by assumption) ?_
        rotate_left
        · ((intro w hSw); (try dsimp only at hSw); go_simp; (try with_reducible rfl))
        (try simp only [Act.put, List.setIfInBounds_toArray, List.set_cons_zero, List.set_cons_succ])
        refine wpAnyH_take (i := 12) (oi := ⟨some 56, _, _, _, _, _⟩) (v := ?_) rfl (by kernel_rfl) (by kernel_rfl) (by kernel_rfl) (fun _ _ _ h => h) (Or.inl ⟨by rfl, ?_⟩) (by assumption) ?_
        rotate_left
        · ((intro w hSw); (try dsimp only at hSw); go_simp; (try with_reducible rfl))
        (try simp only [Act.put, List.setIfInBounds_toArray, List.set_cons_zero, List.set_cons_succ])
        refine wpAnyH_take (i := 14) (oi := ⟨some 58, _, _, _, _, _⟩) (v := ?_) rfl (by kernel_rfl) (by kernel_rfl) (by kernel_rfl) (fun _ _ _ h => h) (Or.inl ⟨by rfl, ?_⟩) (by assumption) ?_
        rotate_left
        · ((intro w hSw); (try dsimp only at hSw); go_simp; (try with_reducible rfl))
        (try simp only [Act.put, List.setIfInBounds_toArray, List.set_cons_zero, List.set_cons_succ])
        refine wpAnyH_take (i := 15) (oi := ⟨some 59, _, _, _, _, _⟩) (v := ?_) rfl (by kernel_rfl) (by kernel_rfl) (by kernel_rfl) (fun _ _ _ h => h) (Or.inl ⟨by rfl, ?_⟩) (by assumption) ?_
        rotate_left
        · ((intro w hSw); (try dsimp only at hSw); go_simp; (try with_reducible rfl))
        (try simp only [Act.put, List.setIfInBounds_toArray, List.set_cons_zero, List.set_cons_succ])
        refine wpAnyH_ready (rs := [16]) (by kernel_rfl) (by simp) ?_
        refine AllReadyH.cons (o := ⟨some 60, _, _, _, _, _⟩) rfl (fun K hK => ?_) AllReadyH.nil
        (obtain ⟨hS1, hS2⟩ := hHeld; refine step_append_str rfl (.tmp 44) (.tmp 59) rfl (base := w.heap.size) (l := l) rfl (HO8.out.fut) (s := s.extract k km) rfl (by rw [HL.out, HEX.out]; omega) (Nat.le_trans hz8 (fut w8 _).size) (N := n + m) (by rw [HL.out, HEX.out]) ?_; intro A9 c9 w9 hown9 hgr9 hbel9; have hb9 : Below w.heap.size w8 w9 := ((fut w8 _).mono hz8).trans hbel9; have H9 := hide hown9; have HB9 := hide (HB8.out.below hb9 hlb); have HM9 : Hid (Mv g w w9) := Mv.down HM8.out hb9; clear q0 q1 lq fq; obtain ⟨q0, q1⟩ := At.z2 HB9.out.at0; have lq := HB9.out.lt; have fq := HB9.out.free; clear hS1 hS2)
        refine hK.out _ _ (by (try dsimp only); (exact ⟨hb9, fun b o h => hb9.cell (p := ⟨b, o, none⟩) h⟩)) (fun hHeld => ?_)
        clear hK K
        (try simp only [Act.put, List.setIfInBounds_toArray, List.set_cons_zero, List.set_cons_succ])
        refine wpAnyH_take (i := 17) (oi := ⟨some 3, _, _, _, _, _⟩) (v := ?_) rfl (by kernel_rfl) (by kernel_rfl) (by kernel_rfl) (fun _ _ _ h => h) (Or.inl ⟨by rfl, ?_⟩) (by assumption) ?_
        rotate_left
        · ((intro w hSw); (try dsimp only at hSw); go_simp; (try with_reducible rfl))
        (try simp only [Act.put, List.setIfInBounds_toArray, List.set_cons_zero, List.set_cons_succ])
        refine wpAnyH_done (by kernel_rfl) ?_ _
        go_wp2_with fail
        have hkme := HKM.out
        go_roundw
        case rel => exact ⟨f, km, n + m, c9, A9, l ++ (s.data.toList.drop k).take m, by omega, hkm, by omega, rfl, by show _ = _; rw [List.length_append, HL.out, ← HEL.out]; exact congrArg (n + ·) HEX.out, by omega, HTN.out, by have h_ := H9.out; rw [HEL.out] at h_; exact h_.set_other HB9.out (by decide) 1 _, Pr.put HB9.out (by omega), HM9.out.put _⟩
        case measure =>
          rw [Pr.pos (Pr.put (n := km) HB9.out (by omega)), Pr.pos HB.out]
          omega
  · have HRN : Hid (r = none) := by show _ = _; rw [← hr, textP, if_neg hq]
    have TN := jtake_no g s i 34 w h hi (.inr hq) hs
    rw [show ((34 : Nat) : Int) = 34 from rfl] at TN
    have TN := hide TN
    clear hr hq h
    go_enter Tryd.func34, Tryd.ntmps34
    go_wp2_with (go_at_call 52; (with_reducible refine TN.out.mono ?_); rintro e w2 ⟨rfl, hs2⟩)
    exact ⟨rfl, by rw [HRN.out]; rfl, Mv.of_step hs2⟩
end Go.Proofs.YtoibfefalflooaaDoor
