import Derived.Test.YtinpnginjpfbpaaDoorData
namespace Go.Proofs.YtinpnginjpfbpaaDoor
open Go.RowKit

theorem vecKind_yes (k : Int) (h : 1 ≤ k ∧ k ≤ 3) (w : World) : Calls Tryd.prog 36 #[.int .i64 k] w fun e w' => e = .returned (.bool true) ∧ w = w' := by
  obtain ⟨h1, h2⟩ := h
  go_enter Tryd.func36, Tryd.ntmps36
  go_wp2
  go_ret
  exact ⟨rfl, rfl⟩
theorem vecKind_no (k : Int) (h : ¬ (1 ≤ k ∧ k ≤ 3)) (w : World) : Calls Tryd.prog 36 #[.int .i64 k] w fun e w' => e = .returned (.bool false) ∧ w = w' := by
  by_cases h1 : 1 ≤ k
  · have h2 : 3 < k := by omega
    clear h
    go_enter Tryd.func36, Tryd.ntmps36
    go_wp2
    go_ret
    exact ⟨ret_bool (by simp; omega), rfl⟩
  · clear h
    go_enter Tryd.func36, Tryd.ntmps36
    go_wp2
    go_ret
    exact ⟨rfl, rfl⟩
theorem vecKind_any (k : Int) (w : World) : Calls Tryd.prog 36 #[.int .i64 k] w fun e w' => e = .returned (.bool (kindB k)) ∧ w = w' := by
  by_cases h : 1 ≤ k ∧ k ≤ 3
  · rw [show kindB k = true by simp [kindB, h]]; exact vecKind_yes k h w
  · rw [show kindB k = false by simpa [kindB] using h]; exact vecKind_no k h w

theorem find1_any (b : Nat) (c : Col) (s : ByteArray) (w : World) (h : w.cell? ⟨b, 0, none⟩ = some (.string s)) (hb : b < w.heap.size) :
    Calls Tryd.prog 42 #[c.val, .pointer (some ⟨b, 0, none⟩)] w fun e w' => e = .returned (.bool (c.name.toList == s.toList)) ∧ Below w.heap.size w w' := by
  unfold Col.val
  go_enter Tryd.func42, Tryd.ntmps42
  go_wp2
  go_ret
  exact ⟨rfl, (Below.refl _ _).alloc (Nat.le_refl _) _⟩

theorem indexFuncCol_any (f : FuncId) (caps : Array Value) (p : Col → Bool) (A : Option Addr) (cap : Nat) (cols : List Col) (w : World)
    (hB : cols.length ≤ 4611686018427387904) (hat : SlAt w w.heap.size 3 A (cols.map Col.cells))
    (hcall : ∀ args w, (callFunc f args).run Tryd.prog w = .ok (.enter f args) w)
    (hf : ∀ c ∈ cols, ∀ w', Below w.heap.size w w' → Calls Tryd.prog f (#[c.val] ++ caps) w' fun e w'' => e = .returned (.bool (p c)) ∧ Below w.heap.size w' w'') :
    Calls Tryd.prog 20 #[.slice A cols.length cap, .func (.func f) #[] caps] w fun e w' =>
      e = .returned (.int .i64 (idx p cols)) ∧ Below w.heap.size w w' := by
  have HF := Lib.hid hf; clear hf
  go_enter Tryd.func20, Tryd.ntmps20
  go_wp2
  go_loopw [8] (fun i wr => ∃ k : Nat, k ≤ cols.length ∧ i = .int .i64 k ∧ k ≤ cols.findIdx p ∧ Below w.heap.size w wr) (fun i _ => cols.length - (intOf i).toNat)
  case atStart => exact ⟨0, Nat.zero_le _, rfl, Nat.zero_le _, Below.refl _ _⟩
  case round =>
    obtain ⟨k, hk, rfl, hfi, hbw⟩ := hrel
    by_cases hlt : k < cols.length
    · obtain ⟨b, off, rfl, hb, hc⟩ := hat.keep hbw (by simpa using Nat.lt_of_le_of_lt (Nat.zero_le _) hlt)
      have hck := hc k cols[k].cells (by simp [hlt])
      obtain ⟨h1, h2, h3⟩ := At.l3 hck
      have HC := HF.out cols[k] (List.getElem_mem hlt) wr hbw
      unfold Col.val at HC
      have HC' := Lib.hid HC; clear HC hc
      cases hp : p cols[k] with
      | true =>
        have Hp := Lib.hid hp; clear hp
        go_wp2_with (refine HC'.out.mono ?_; rintro e w' ⟨rfl, hb'⟩; rw [Hp.out])
        go_ret
        have e : cols.findIdx p = k := fi_hit p cols k hlt hfi Hp.out
        exact ⟨ret_int (by simp [idx, e, hlt]), hbw.trans hb'⟩
      | false =>
        have Hp := Lib.hid hp; clear hp
        go_wp2_with (refine HC'.out.mono ?_; rintro e w' ⟨rfl, hb'⟩; rw [Hp.out])
        go_roundw
        case rel => 
          exact ⟨k + 1, by omega, by go_num, fi_miss p cols k hlt hfi Hp.out, hbw.trans hb'⟩
        case measure => simp [intOf]; omega
    · go_wp2_with fail
      go_ret
      exact ⟨ret_int (by rw [idx, if_neg (by omega)]), hbw⟩

theorem find_any (id next : Int) (A : Option Addr) (cap : Nat) (cols : List Col) (nm : ByteArray) (w : World)
    (hB : cols.length ≤ 4611686018427387904) (hat : SlAt w w.heap.size 3 A (cols.map Col.cells)) :
    Calls Tryd.prog 26 #[.agg #[.int .i64 id, .slice A cols.length cap, .int .i64 next], .string nm] w fun e w' =>
      e = .returned (.int .i64 (idx (named nm) cols)) ∧ Below w.heap.size w w' := by
  go_enter Tryd.func26, Tryd.ntmps26
  go_wp2_with fail
  refine (indexFuncCol_any _ _ (named nm) A cap cols _ hB ?_ ?_ ?_).mono ?_
  · exact (hat.al _).al _
  · intro args w1
    kernel_rfl
  · intro c hc w' hb'
    obtain ⟨hc1, _⟩ := bcell hb'
    refine (find1_any _ c nm w' ?_ ?_).mono fun e w2 ⟨he, hb2⟩ => ⟨he, hb2.mono hb'.size⟩
    · rw [hc1 _ _ (by simp)]; simp [go_sem]
    · have := hb'.size; simp at this; omega
  · rintro e w' ⟨rfl, hb'⟩
    go_wp2_with fail
    go_ret
    exact ⟨rfl, below_from1 (below_from1 hb')⟩

end Go.Proofs.YtinpnginjpfbpaaDoor
