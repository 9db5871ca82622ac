/-
  Texts among texts, the columns that a predicate names, an error's number.
-/
import Derived.Test.YtcgpfllkbflbhaaDoorPb
namespace Go.Proofs.YtcgpfllkbflbhaaDoor
open Go.RowKit

theorem numv_any (n : Int) (w : World) : Calls Tryd.prog 20 #[.int .i64 n] w fun e w' => e = .returned (.int .i64 n) ∧ w = w' := by
  go_enter Tryd.func20, Tryd.ntmps20
  go_wp2
  go_ret
  exact ⟨rfl, rfl⟩
theorem eiStr : EI Tryd.prog 44 9 1 16 :=
  ⟨Tryd.underlying44, info_parts (show (Tryd.prog.info? 9).map (fun i => (i.zero, i.size, i.bytes)) = some (some (.string .empty), 1, 16) by kernel_rfl) |>.elim fun i h => ⟨i, _, h.1, h.2.1, h.2.2.1, h.2.2.2, rfl⟩, by decide, by decide⟩
theorem str_fit (l : List ByteArray) : Fit 1 (strCells l) := Fit.map (f := fun s : ByteArray => [Value.string s]) (fun s => ⟨rfl, fun u hu => by simp at hu; rw [hu]; rfl⟩) l
theorem strCells_len (l : List ByteArray) : (strCells l).length = l.length := by simp [strCells]
def isS (nm : ByteArray) (c : ByteArray) : Bool := c.toList == nm.toList

theorem sindex_any {w0 : World} (l : List ByteArray) (A : Option Addr) (c : Nat) (nm : ByteArray) (w : World) (h : SlAt w0 w0.heap.size 1 A (strCells l)) [hf : Fut w0 w] (hl : l.length ≤ 4611686018427387904) :
    Calls Tryd.prog 109 #[.slice A l.length c, .string nm] w fun e w' => e = .returned (.int .i64 (idx (isS nm) l)) ∧ w = w' := by
  have hB := hf.below.size
  go_enter Tryd.func109, Tryd.ntmps109
  go_wp2
  go_loop [5, 8] (fun _ i => ∃ k : Nat, k ≤ l.length ∧ i = .int .i64 k ∧ k ≤ l.findIdx (isS nm)) (fun _ i => l.length - (intOf i).toNat)
  case atStart => exact ⟨0, Nat.zero_le _, rfl, Nat.zero_le _⟩
  case round =>
    obtain ⟨k, hk, rfl, hfi⟩ := hrel
    by_cases hlt : k < l.length
    · obtain ⟨b, off, rfl, hb, hc⟩ := h.elem hf (k := k) (by simpa [strCells] using hlt)
      have h1 := At.l1 (hc k [.string l[k]] (by simp [strCells, hlt]))
      simp only [Nat.mul_one] at h1
      have hb' : b < w.heap.size := by omega
      clear hc
      cases hp : isS nm l[k] with
      | true =>
        have E := hide (fi_hit (isS nm) l k hlt hfi hp)
        have hp' : (l[k].toList == nm.toList) = true := hp
        have hp2 : (nm.toList == l[k].toList) = true := by rw [beq_iff_eq] at hp' ⊢; exact hp'.symm
        clear hp
        go_wp2
        go_ret
        exact ⟨ret_int (by simp [idx, E.out, hlt]), rfl⟩
      | false =>
        have Hp := Lib.hid hp
        have hp' : (l[k].toList == nm.toList) = false := hp
        have hp2 : (nm.toList == l[k].toList) = false := by rw [beq_eq_false_iff_ne] at hp' ⊢; exact fun e => hp' e.symm
        clear hp
        go_wp2
        go_round
        case rel => exact ⟨k + 1, by omega, by go_num, fi_miss (isS nm) l k hlt hfi Hp.out⟩
        case measure => simp [intOf]; omega
    · go_wp2_with fail
      go_ret
      exact ⟨ret_int (by rw [idx, if_neg (by omega)]), rfl⟩
theorem idx_cases' {α : Type} (p : α → Bool) (l : List α) : (¬ 0 ≤ idx p l ∧ l.any p = false) ∨ (0 ≤ idx p l ∧ l.any p = true) := by
  unfold idx
  split
  · rename_i h
    exact .inr ⟨by omega, List.any_eq_true.2 ⟨l[l.findIdx p], List.getElem_mem h, List.findIdx_getElem (w := h)⟩⟩
  · rename_i h
    refine .inl ⟨by omega, ?_⟩
    rw [List.any_eq_false]
    intro x hx hp
    exact h (List.findIdx_lt_length_of_exists ⟨x, hx, hp⟩)
theorem idx_any {α : Type} (p : α → Bool) (l : List α) : decide (0 ≤ idx p l) = l.any p := by
  rcases idx_cases' p l with ⟨h1, h2⟩ | ⟨h1, h2⟩
  · rw [h2]; simpa using h1
  · rw [h2]; simpa using h1
theorem scontains_any {w0 : World} (l : List ByteArray) (A : Option Addr) (c : Nat) (nm : ByteArray) (w : World) (h : SlAt w0 w0.heap.size 1 A (strCells l)) [hf : Fut w0 w] (hl : l.length ≤ 4611686018427387904) :
    Calls Tryd.prog 71 #[.slice A l.length c, .string nm] w fun e w' => e = .returned (.bool (l.any (isS nm))) ∧ w = w' := by
  have HX := hide (idx_any (isS nm) l)
  have HI := hide (fun w' [Fut w0 w'] => sindex_any l A c nm w' h hl)
  go_enter Tryd.func71, Tryd.ntmps71
  go_wp2_with fail
  refine (HI.out _).mono ?_
  rintro e w1 ⟨rfl, rfl⟩
  go_wp2_with fail
  go_ret
  exact ⟨ret_bool HX.out, rfl⟩

theorem sameTexts_any {w1 w2 : World} (l : List ByteArray) (A1 A2 : Option Addr) (c1 c2 : Nat) (w : World) (h1 : SlAt w1 w1.heap.size 1 A1 (strCells l)) (h2 : SlAt w2 w2.heap.size 1 A2 (strCells l)) [f1 : Fut w1 w] [f2 : Fut w2 w] (hl : l.length ≤ 4611686018427387904) :
    Calls Tryd.prog 24 #[.slice A1 l.length c1, .slice A2 l.length c2] w fun e w' => e = .returned (.bool true) ∧ Step w w' := by
  have z1 := f1.below.size
  have z2 := f2.below.size
  go_enter Tryd.func24, Tryd.ntmps24
  go_wp2
  go_loopw [5] (fun i wr => ∃ k : Nat, k ≤ l.length ∧ i = .int .i64 k ∧ Step w wr) (fun i _ => l.length - (intOf i).toNat)
  case atStart => exact ⟨0, Nat.zero_le _, rfl, Step.of⟩
  case round =>
    obtain ⟨k, hk, rfl, hs⟩ := hrel
    by_cases hlt : k < l.length
    · obtain ⟨b1, o1, rfl, hb1, hc1⟩ := h1.elem (w' := wr) inferInstance (k := k) (by simpa [strCells] using hlt)
      obtain ⟨b2, o2, rfl, hb2, hc2⟩ := h2.elem (w' := wr) inferInstance (k := k) (by simpa [strCells] using hlt)
      obtain ⟨x, hx⟩ : ∃ x, l[k]? = some x := ⟨_, List.getElem?_eq_getElem hlt⟩
      have p0 := At.l1 (hc1 k [.string x] (by simp [strCells, hx]))
      have q0 := At.l1 (hc2 k [.string x] (by simp [strCells, hx]))
      simp only [Nat.mul_one] at p0 q0
      clear hc1 hc2 hx
      go_wp2
      go_quiet (fail)
      go_wp2
      go_roundw
      case rel => exact ⟨k + 1, by omega, by go_num, Step.of⟩
      case measure => simp [intOf]; omega
    · go_wp2_with fail
      go_ret
      exact ⟨rfl, hs⟩

theorem colsStep_no {acc : List ByteArray} {n : Nod} (h : asks n = false) : colsStep acc n = acc := by simp [colsStep, h]
theorem colsStep_in {acc : List ByteArray} {n : Nod} (h : acc.any (isS n.col) = true) : colsStep acc n = acc := by
  have : acc.any (fun c => c.toList == n.col.toList) = true := h
  simp only [colsStep, this, Bool.not_true, Bool.and_false]
  simp
theorem colsStep_new {acc : List ByteArray} {n : Nod} (h : asks n = true) (h2 : acc.any (isS n.col) = false) : colsStep acc n = acc ++ [n.col] := by
  have : acc.any (fun c => c.toList == n.col.toList) = false := h2
  simp only [colsStep, this, h, Bool.not_false, Bool.and_self, if_true]

set_option maxRecDepth 100000 in
set_option maxHeartbeats 4000000 in
theorem pcols_any {w0 : World} (ns : List Nod) (A : Option Addr) (cap : Nat) (w : World) (h : PrIn w0 ns A cap) [hf : Fut w0 w] :
    Calls Tryd.prog 25 #[.agg #[.slice A ns.length cap]] w fun e w' => ∃ (A' : Option Addr) (c' : Nat), e = .returned (.slice A' (colsT ns).length c') ∧ Own w' w.heap.size 9 1 (.slice A' (colsT ns).length c') (strCells (colsT ns)) ∧ Step w w' := by
  have hl := h.len
  have hz := hf.below.size
  have HPB := hide (Blk.new w [.slice A ns.length cap] 24)
  have pm := fun w' [Fut w0 w'] => ppred_any ns A cap w' h
  obtain ⟨R, hR⟩ : ∃ R, colsT ns = R := ⟨_, rfl⟩
  have HR := hide hR
  rw [hR]
  clear hR
  cases hpb : predB ns with
  | false =>
    have HX : Hid (R = []) := by show _ = _; rw [← HR.out, colsT, hpb]; rfl
    rw [hpb] at pm
    have PM := hide pm
    clear pm hpb
    go_enter Tryd.func25, Tryd.ntmps25
    go_wp2_with fail
    refine (PM.out _).mono ?_
    rintro e w2 ⟨rfl, hs2⟩
    go_wp2_with fail
    go_ret
    exact ⟨none, 0, by rw [HX.out]; rfl, by rw [HX.out]; exact Own.nil_ _ _ _ _, Step.of⟩
  | true =>
    have HX : Hid (R = ns.foldl colsStep []) := by show _ = _; rw [← HR.out, colsT, hpb]; rfl
    have h24 : ns.length ≤ 24 := by
      have := hpb
      simp only [predB, Bool.and_eq_true, decide_eq_true_eq] at this
      exact this.1
    rw [hpb] at pm
    have PM := hide pm
    clear pm hpb
    go_enter Tryd.func25, Tryd.ntmps25
    go_wp2_with fail
    refine (PM.out _).mono ?_
    rintro e w2 ⟨rfl, hs2⟩
    have p0 := At.z1 (HPB.out.fut (w' := w2)).at0
    have lp := (HPB.out.fut (w' := w2)).lt
    have z2 := hs2.size
    simp only [hsz] at z2
    go_wp2_with fail
    clear p0 lp
    go_loopw [3, 5, 12] (fun v _ i wr => ∃ (k m : Nat) (A' : Option Addr) (c' : Nat), k ≤ ns.length ∧ m ≤ k ∧ i = .int .i64 k ∧ v = .slice A' m c' ∧ Hid (((ns.take k).foldl colsStep []).length = m) ∧ Own wr w2.heap.size 9 1 (.slice A' m c') (strCells ((ns.take k).foldl colsStep [])) ∧ Step w2 wr) (fun _ _ i _ => ns.length - (intOf i).toNat)
    case atStart => exact ⟨0, 0, none, 0, Nat.zero_le _, Nat.zero_le _, rfl, rfl, hide rfl, Own.nil_ _ _ _ _, Step.of⟩
    case round =>
      obtain ⟨k, m, A', c', hk, hm, rfl, rfl, HM, hown, hst⟩ := hrel
      have HO := hide hown; clear hown
      have hs1 := hst.size
      by_cases hlt : k < ns.length
      · obtain ⟨b, off, rfl, hb, n, hn, hat⟩ := h.node (w' := wr) inferInstance hlt
        have hlb : b < wr.heap.size := by omega
        have HN := hide hn; clear hn
        obtain ⟨n0, n1, n2, n3, n4, n5, n6, n7, n8⟩ := At.l9 hat
        clear hat
        have HT := hide (cols_take ns k n HN.out)
        have HNB := hide (Blk.new wr [.int .i64 n.kind, .string n.col, .int .i64 n.cmp, .int .i64 n.v.kind, .int .i64 n.v.i, .bool n.v.b, .string n.v.s, .int .i64 n.l, .int .i64 n.r] 55)
        have hsl := (HO.out.fut (w' := wr.alloc (.cells #[.int .i64 n.kind, .string n.col, .int .i64 n.cmp, .int .i64 n.v.kind, .int .i64 n.v.i, .bool n.v.b, .string n.v.s, .int .i64 n.l, .int .i64 n.r] 55))).sl (str_fit _).len
        have ct := fun w' [Fut (wr.alloc (.cells #[.int .i64 n.kind, .string n.col, .int .i64 n.cmp, .int .i64 n.v.kind, .int .i64 n.v.i, .bool n.v.b, .string n.v.s, .int .i64 n.l, .int .i64 n.r] 55)) w'] => scontains_any ((ns.take k).foldl colsStep []) A' c' n.col w' hsl (by rw [HM.out]; omega)
        rw [HM.out] at ct
        clear hsl
        by_cases ha : asks n = true
        · have k12 : n.kind = 1 ∨ n.kind = 2 := by simpa [asks] using ha
          have k12' : (n.kind == 1) = true ∨ (n.kind == 1) = false ∧ (n.kind == 2) = true := by rcases k12 with h | h <;> simp [h]
          have HA := hide ha
          clear k12 ha
          cases hin : ((ns.take k).foldl colsStep []).any (isS n.col) with
          | true =>
            rw [hin] at ct
            have CT_ := hide ct
            have HE : Hid ((ns.take (k + 1)).foldl colsStep [] = (ns.take k).foldl colsStep []) := by show _ = _; rw [HT.out, colsStep_in hin]
            clear ct hin
            rcases k12' with e1 | ⟨e1, e2⟩
            all_goals
              go_wp2_with (go_at_call 71; refine (CT_.out _).mono ?_; rintro e w4 ⟨rfl, rfl⟩)
              go_roundw
              case rel => exact ⟨k + 1, m, A', c', by omega, by omega, by go_num, rfl, by rw [HE.out]; exact HM, by rw [HE.out]; exact HO.out.fut, Step.of⟩
              case measure => simp [intOf]; omega
          | false =>
            rw [hin] at ct
            have CT_ := hide ct
            have HE : Hid ((ns.take (k + 1)).foldl colsStep [] = (ns.take k).foldl colsStep [] ++ [n.col]) := by show _ = _; rw [HT.out, colsStep_new HA.out hin]
            clear ct hin
            have HOw := hide ((HO.out.fut (w' := wr.alloc (.cells #[.int .i64 n.kind, .string n.col, .int .i64 n.cmp, .int .i64 n.v.kind, .int .i64 n.v.i, .bool n.v.b, .string n.v.s, .int .i64 n.l, .int .i64 n.r] 55))).alloc (.cells #[.string n.col] 9))
            have HNew := hide (SlAt.one_at (w := wr.alloc (.cells #[.int .i64 n.kind, .string n.col, .int .i64 n.cmp, .int .i64 n.v.kind, .int .i64 n.v.i, .bool n.v.b, .string n.v.s, .int .i64 n.l, .int .i64 n.r] 55)) (b := wr.heap.size + 1) (by simp) 1 [.string n.col] 9)
            rcases k12' with e1 | ⟨e1, e2⟩
            all_goals
              go_wp2_with (first
                | (go_at_call 71; refine (CT_.out _).mono ?_; rintro e w4 ⟨rfl, rfl⟩)
                | (at_builtin; go_loud (refine wpList_append_sl rfl (.tmp 31) (.tmp 34) 44 rfl eiStr (base := w2.heap.size) (xs := strCells ((ns.take k).foldl colsStep [])) rfl HOw.out (str_fit _) (ys := [[.string n.col]]) rfl (by simp) HNew.out (str_fit [n.col]) (by rw [strCells_len, HM.out]; simp; omega) (by simp; omega) (N := m + 1) (by rw [strCells_len, HM.out]; rfl) ?_; intro A5 c5 w5 hq1 hq2 hown5 hgr5 hbel5; have H5 := hide hown5; have HB5 := hide hbel5; clear hown5 hgr5 hbel5)))
              go_roundw
              case rel =>
                refine ⟨k + 1, m + 1, A5, c5, by omega, by omega, by go_num, rfl, by rw [HE.out]; exact hide (by rw [List.length_append, HM.out]; rfl), ?_, ⟨?_⟩⟩
                · rw [HE.out]
                  have := H5.out
                  simpa [strCells] using this
                · exact (fut w2 ((wr.alloc _).alloc _)).trans HB5.out
              case measure => simp [intOf]; omega
        · have ha' : asks n = false := by simpa using ha
          have k1 : (n.kind == 1) = false := by have := ha'; simp only [asks, Bool.or_eq_false_iff] at this; exact this.1
          have k2 : (n.kind == 2) = false := by have := ha'; simp only [asks, Bool.or_eq_false_iff] at this; exact this.2
          have HE : Hid ((ns.take (k + 1)).foldl colsStep [] = (ns.take k).foldl colsStep []) := by show _ = _; rw [HT.out, colsStep_no ha']
          clear ha ha' ct
          go_wp2_with fail
          go_roundw
          case rel => exact ⟨k + 1, m, A', c', by omega, by omega, by go_num, rfl, by rw [HE.out]; exact HM, by rw [HE.out]; exact HO.out.fut, Step.of⟩
          case measure => simp [intOf]; omega
      · obtain rfl : k = ns.length := by omega
        have HT : Hid ((ns.take ns.length).foldl colsStep [] = R) := by show _ = _; rw [List.take_length]; exact HX.out.symm
        go_wp2_with fail
        go_ret
        have h1 := HO.out
        have h2 := HM.out
        rw [HT.out] at h1 h2
        exact ⟨A', c', by rw [h2]; rfl, by rw [h2]; exact h1.more (by omega), Step.of⟩
end Go.Proofs.YtcgpfllkbflbhaaDoor
