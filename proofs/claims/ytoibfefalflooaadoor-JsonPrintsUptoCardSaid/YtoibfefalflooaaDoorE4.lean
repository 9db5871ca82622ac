/-
  The document's printer: a value's leaves.
-/
import Derived.Test.YtoibfefalflooaaDoorE3
import Derived.Test.YtoibfefalflooaaDoorJx
import Derived.Test.YtoibfefalflooaaDoorJ9
namespace Go.Proofs.YtoibfefalflooaaDoor
open Go.RowKit

/-- The document's printer stands for r. -/
def DRep (w : World) (g : Nat) (r : Except Int (List UInt8)) : Prop := ∃ (b : List UInt8) (code : Int), DocP w g b code ∧ Rep r b code
theorem DRep.fut {w w' : World} {g : Nat} {r : Except Int (List UInt8)} (h : DRep w g r) [k : Fut w w'] : DRep w' g r := let ⟨b, c, h1, h2⟩ := h; ⟨b, c, h1.fut, h2⟩
theorem DRep.lt {w : World} {g : Nat} {r : Except Int (List UInt8)} (h : DRep w g r) : g < w.heap.size := let ⟨_, _, h1, _⟩ := h; h1.lt
theorem radd_rep (g : Nat) (r : Except Int (List UInt8)) (s : ByteArray) (w : World) (h : DRep w g r) (hs : s.size ≤ 16711680) : Calls Tryd.prog 30 #[.pointer (some ⟨g, 0, none⟩), .string s] w fun e w' => e = .returned (.tuple #[]) ∧ DRep w' g (andE r fun o => addE o s.data.toList) ∧ Kp g w w' := by
  obtain ⟨b, c, h1, h2⟩ := h
  exact (radd_any g b c s w h1 hs).mono fun e w' hh => ⟨hh.1, ⟨_, _, hh.2.1, rep_add h2 _⟩, hh.2.2⟩
theorem rfail_rep (g : Nat) (r : Except Int (List UInt8)) (c : Int) (hc : c ≠ 0) (w : World) (h : DRep w g r) : Calls Tryd.prog 48 #[.pointer (some ⟨g, 0, none⟩), .int .i64 c] w fun e w' => e = .returned (.tuple #[]) ∧ DRep w' g (andE r fun _ => .error c) ∧ Kp g w w' := by
  obtain ⟨b, code, h1, h2⟩ := h
  exact (rfail_any g b code c w h1).mono fun e w' hh => ⟨hh.1, ⟨_, _, hh.2.1, rep_fail h2 hc⟩, hh.2.2⟩
mutual
/-- No text is longer than the second form's bulk. -/
def SmT : T → Prop
  | .mk _ _ _ s _ _ l _ _ ks => s.size ≤ 1048576 ∧ (∀ q ∈ ks, q.size ≤ 1048576) ∧ SmTs l
def SmTs : List T → Prop
  | [] => True
  | t :: r => SmT t ∧ SmTs r
end
theorem SmTs.get : ∀ {l : List T} {i : Nat} {t : T}, SmTs l → l[i]? = some t → SmT t
  | [], i, t, _, h => by simp at h
  | x :: r, 0, t, k, h => by rw [SmTs] at k; simp at h; subst h; exact k.1
  | x :: r, i + 1, t, k, h => by rw [SmTs] at k; exact SmTs.get k.2 (by simpa using h)
/-- What the document's writing of a value does. -/
def RVAL (t : T) (d : Nat) : Prop := ∀ (g : Nat) (r : Except Int (List UInt8)) (wg w : World), wg.heap.size = g → RdT wg t → SmT t → Fut wg w → DRep w g r →
  Calls Tryd.prog 29 #[.pointer (some ⟨g, 0, none⟩), .agg t.cells.toArray, .int .i64 (16 - (d : Int))] w fun e w' => e = .returned (.tuple #[]) ∧ DRep w' g (andE r fun o => prV t.j d o) ∧ Kp g w w'
theorem andE_congr {r : Except Int (List UInt8)} {f f2 : List UInt8 → Except Int (List UInt8)} (h : ∀ o, f o = f2 o) : andE r f = andE r f2 := by
  cases r with
  | error e => rfl
  | ok o => exact h o

set_option maxRecDepth 100000 in
set_option maxHeartbeats 16000000 in
theorem rval_leaf (t : T) (d : Nat) (hk : t.j.k ≠ 4 ∧ t.j.k ≠ 5) : RVAL t d := by
  intro g r wg w hgs hrd hsm hf hp
  cases t with
  | mk k bb n s A c l AK cK ks =>
    rw [RdT] at hrd
    rw [SmT] at hsm
    obtain ⟨_, _, _, ⟨hkb, hn⟩, _, _, _⟩ := hrd
    have hk4 : k ≠ 4 := hk.1
    have hk5 : k ≠ 5 := hk.2
    have hs := hsm.1
    have HP := hide hp
    have hlt := hp.lt
    rw [T.cells]
    obtain ⟨nl, hnl⟩ : ∃ x, l.length = x := ⟨_, rfl⟩
    obtain ⟨nk, hnk⟩ : ∃ x, ks.length = x := ⟨_, rfl⟩
    rw [hnl, hnk]
    obtain ⟨W, hW⟩ : ∃ W : World, W = w.alloc (.cells #[.int .i64 k, .bool bb, .int .i64 n, .string s, .slice A nl c, .slice AK nk cK] 25) := ⟨_, rfl⟩
    have HB : Hid (Blk W w.heap.size 25 [.int .i64 k, .bool bb, .int .i64 n, .string s, .slice A nl c, .slice AK nk cK]) := by rw [hW]; exact Blk.new w _ 25
    have SW : Step w W := by rw [hW]; exact Step.of
    obtain ⟨R, hR⟩ : ∃ R, (andE r fun o => prV (T.j (.mk k bb n s A c l AK cK ks)) d o) = R := ⟨_, rfl⟩
    have HR := hide hR
    rw [hR]
    have hRe : ∀ f : List UInt8 → Except Int (List UInt8), (∀ o, prV (T.j (.mk k bb n s A c l AK cK ks)) d o = f o) → R = andE r f := fun f h => by rw [← hR]; exact andE_congr h
    clear hk hgs hnl hnk hR hp
    by_cases h0 : k = 0
    · subst h0
      obtain rfl : R = andE r (fun o => addE o [110, 117, 108, 108]) := hRe _ (fun o => by rw [T.j, prV, if_pos rfl])
      have AY := hide (fun w' (hp : DRep w' g r) => radd_rep g r ⟨#[110, 117, 108, 108]⟩ w' hp (by decide))
      clear hRe
      go_enter Tryd.func29, Tryd.ntmps29
      go_upto_region 1 with fail
      rw [← hW]
      clear hW
      obtain ⟨c0, c1, c2, c3, c4, c5⟩ := At.z6 HB.out.at0
      have lc := HB.out.lt
      go_wp2_with (first | (go_at_call 30; (with_reducible refine (AY.out _ HP.out.fut).mono ?_); rintro e w9 ⟨rfl, hp9, hb9⟩; have HP9 := hide hp9; clear hp9))
      refine bodyPost_ret (results_none rfl _ _ _) rfl ?_
      exact ⟨rfl, HP9.out, ((Kp.of_fut (inferInstance : Fut w W) (by omega)).trans hb9)⟩
    by_cases h1 : k = 1
    · subst h1
      cases bb with
      | true =>
        obtain rfl : R = andE r (fun o => addE o [116, 114, 117, 101]) := hRe _ (fun o => by rw [T.j, prV, if_neg (by decide), if_pos rfl]; rfl)
        have AY := hide (fun w' (hp : DRep w' g r) => radd_rep g r ⟨#[116, 114, 117, 101]⟩ w' hp (by decide))
        clear hRe
        go_enter Tryd.func29, Tryd.ntmps29
        go_upto_region 1 with fail
        rw [← hW]
        clear hW
        obtain ⟨c0, c1, c2, c3, c4, c5⟩ := At.z6 HB.out.at0
        have lc := HB.out.lt
        go_wp2_with (first | (go_at_call 30; (with_reducible refine (AY.out _ HP.out.fut).mono ?_); rintro e w9 ⟨rfl, hp9, hb9⟩; have HP9 := hide hp9; clear hp9))
        refine bodyPost_ret (results_none rfl _ _ _) rfl ?_
        exact ⟨rfl, HP9.out, ((Kp.of_fut (inferInstance : Fut w W) (by omega)).trans hb9)⟩
      | false =>
        obtain rfl : R = andE r (fun o => addE o [102, 97, 108, 115, 101]) := hRe _ (fun o => by rw [T.j, prV, if_neg (by decide), if_pos rfl]; rfl)
        have AY := hide (fun w' (hp : DRep w' g r) => radd_rep g r ⟨#[102, 97, 108, 115, 101]⟩ w' hp (by decide))
        clear hRe
        go_enter Tryd.func29, Tryd.ntmps29
        go_upto_region 1 with fail
        rw [← hW]
        clear hW
        obtain ⟨c0, c1, c2, c3, c4, c5⟩ := At.z6 HB.out.at0
        have lc := HB.out.lt
        go_wp2_with (first | (go_at_call 30; (with_reducible refine (AY.out _ HP.out.fut).mono ?_); rintro e w9 ⟨rfl, hp9, hb9⟩; have HP9 := hide hp9; clear hp9))
        refine bodyPost_ret (results_none rfl _ _ _) rfl ?_
        exact ⟨rfl, HP9.out, ((Kp.of_fut (inferInstance : Fut w W) (by omega)).trans hb9)⟩
    by_cases h2 : k = 2
    · subst h2
      have DC : Hid (∀ w', Calls Tryd.prog 18 #[.int .i64 n] w' fun e w'' => e = .returned (.string (ofL (Go.Lib.itoa n))) ∧ Step w' w'') := fun w' => dec_any n hn.1 hn.2 w'
      obtain rfl : R = andE r (fun o => addE o (Go.Lib.itoa n)) := hRe _ (fun o => by rw [T.j, prV, if_neg (by decide), if_neg (by decide), if_pos rfl])
      have AY := hide (fun w' (hp : DRep w' g r) => (by have h := radd_rep g r (ofL (Go.Lib.itoa n)) w' hp (by have := itoa_len hn.1 hn.2; rw [ofL_size]; omega); rw [ofL_list] at h; exact h : Calls Tryd.prog 30 #[.pointer (some ⟨g, 0, none⟩), .string (ofL (Go.Lib.itoa n))] w' fun e w'' => e = .returned (.tuple #[]) ∧ DRep w'' g (andE r fun o => addE o (Go.Lib.itoa n)) ∧ Kp g w' w''))
      clear hRe
      go_enter Tryd.func29, Tryd.ntmps29
      go_upto_region 1 with fail
      rw [← hW]
      clear hW
      obtain ⟨c0, c1, c2, c3, c4, c5⟩ := At.z6 HB.out.at0
      have lc := HB.out.lt
      go_wp2_with (first | (go_at_call 18; (with_reducible refine (DC.out _).mono ?_); rintro e w5 ⟨rfl, hs5⟩) | (go_at_call 30; (with_reducible refine (AY.out _ HP.out.fut).mono ?_); rintro e w9 ⟨rfl, hp9, hb9⟩; have HP9 := hide hp9; clear hp9))
      refine bodyPost_ret (results_none rfl _ _ _) rfl ?_
      exact ⟨rfl, HP9.out, ((Kp.of_fut (inferInstance : Fut w W) (by omega)).trans ((Kp.of_fut (inferInstance : Fut W w5) (by have := SW.size; omega)).trans hb9))⟩
    by_cases h3 : k = 3
    · subst h3
      have RV := fun w' => rvalid_any s w' (by omega)
      have RQ := hide (fun w' => rquote_any s w' hs)
      have hql : (quoteL s).length ≤ 6291458 := by
        have : ∀ l : List UInt8, (qBs l).length ≤ 6 * l.length := fun l => by
          induction l with
          | nil => simp [qBs]
          | cons c r ih => have := (qB_len c).2; rw [qBs, List.length_append, List.length_cons]; omega
        have h2 := this s.data.toList
        have h3 : s.data.toList.length = s.size := rfl
        rw [quoteL, List.length_cons, List.length_append]
        simp only [List.length_cons, List.length_nil]
        omega
      cases hv : validB s with
      | true =>
        rw [hv] at RV
        have RV := hide RV
        obtain rfl : R = andE r (fun o => addE o (quoteL s)) := hRe _ (fun o => by rw [T.j, prV, if_neg (by decide), if_neg (by decide), if_neg (by decide), if_pos rfl, textW_ok hv])
        have AY := hide (fun w' (hp : DRep w' g r) => (by have h := radd_rep g r (ofL (quoteL s)) w' hp (by rw [ofL_size]; omega); rw [ofL_list] at h; exact h : Calls Tryd.prog 30 #[.pointer (some ⟨g, 0, none⟩), .string (ofL (quoteL s))] w' fun e w'' => e = .returned (.tuple #[]) ∧ DRep w'' g (andE r fun o => addE o (quoteL s)) ∧ Kp g w' w''))
        clear hRe hv
        go_enter Tryd.func29, Tryd.ntmps29
        go_upto_region 1 with fail
        rw [← hW]
        clear hW
        obtain ⟨c0, c1, c2, c3, c4, c5⟩ := At.z6 HB.out.at0
        have lc := HB.out.lt
        go_wp2_with (first | (go_at_call 47; (with_reducible refine (RV.out _).mono ?_); rintro e w3 ⟨rfl, hs3⟩; clear c0 c1 c2 c3 c4 c5 lc; obtain ⟨c0, c1, c2, c3, c4, c5⟩ := At.z6 (HB.out.fut (w' := w3)).at0; have lc := (HB.out.fut (w' := w3)).lt) | (go_at_call 49; (with_reducible refine (RQ.out _).mono ?_); rintro e w5 ⟨rfl, hs5⟩) | (go_at_call 30; (with_reducible refine (AY.out _ HP.out.fut).mono ?_); rintro e w9 ⟨rfl, hp9, hb9⟩; have HP9 := hide hp9; clear hp9))
        refine bodyPost_ret (results_none rfl _ _ _) rfl ?_
        exact ⟨rfl, HP9.out, ((Kp.of_fut (inferInstance : Fut w W) (by omega)).trans ((Kp.of_fut (inferInstance : Fut W w5) (by have := SW.size; omega)).trans hb9))⟩
      | false =>
        rw [hv] at RV
        have RV := hide RV
        obtain rfl : R = andE r (fun _ => .error 300) := hRe _ (fun o => by rw [T.j, prV, if_neg (by decide), if_neg (by decide), if_neg (by decide), if_pos rfl, textW_bad hv])
        have AY := hide (fun w' (hp : DRep w' g r) => rfail_rep g r 300 (by decide) w' hp)
        clear hRe hv
        go_enter Tryd.func29, Tryd.ntmps29
        go_upto_region 1 with fail
        rw [← hW]
        clear hW
        obtain ⟨c0, c1, c2, c3, c4, c5⟩ := At.z6 HB.out.at0
        have lc := HB.out.lt
        go_wp2_with (first | (go_at_call 47; (with_reducible refine (RV.out _).mono ?_); rintro e w3 ⟨rfl, hs3⟩) | (go_at_call 48; (with_reducible refine (AY.out _ HP.out.fut).mono ?_); rintro e w9 ⟨rfl, hp9, hb9⟩; have HP9 := hide hp9; clear hp9))
        refine bodyPost_ret (results_none rfl _ _ _) rfl ?_
        exact ⟨rfl, HP9.out, ((Kp.of_fut (inferInstance : Fut w W) (by omega)).trans ((Kp.of_fut (inferInstance : Fut W w3) (by have := SW.size; omega)).trans hb9))⟩
    have hrng : k < 0 ∨ (¬ k < 0 ∧ k > 5) := by omega
    rcases hrng with hr | ⟨hr1, hr2⟩
    · skip
      obtain rfl : R = andE r (fun _ => .error 300) := hRe _ (fun o => by rw [T.j, prV, if_neg h0, if_neg h1, if_neg h2, if_neg h3, if_neg hk4, if_neg hk5])
      have AY := hide (fun w' (hp : DRep w' g r) => rfail_rep g r 300 (by decide) w' hp)
      clear hRe h0 h1 h2 h3 hk4 hk5
      go_enter Tryd.func29, Tryd.ntmps29
      go_upto_region 1 with fail
      rw [← hW]
      clear hW
      obtain ⟨c0, c1, c2, c3, c4, c5⟩ := At.z6 HB.out.at0
      have lc := HB.out.lt
      go_wp2_with (first | (go_at_call 48; (with_reducible refine (AY.out _ HP.out.fut).mono ?_); rintro e w9 ⟨rfl, hp9, hb9⟩; have HP9 := hide hp9; clear hp9))
      refine bodyPost_ret (results_none rfl _ _ _) rfl ?_
      exact ⟨rfl, HP9.out, ((Kp.of_fut (inferInstance : Fut w W) (by omega)).trans hb9)⟩
    · skip
      obtain rfl : R = andE r (fun _ => .error 300) := hRe _ (fun o => by rw [T.j, prV, if_neg h0, if_neg h1, if_neg h2, if_neg h3, if_neg hk4, if_neg hk5])
      have AY := hide (fun w' (hp : DRep w' g r) => rfail_rep g r 300 (by decide) w' hp)
      clear hRe h0 h1 h2 h3 hk4 hk5
      go_enter Tryd.func29, Tryd.ntmps29
      go_upto_region 1 with fail
      rw [← hW]
      clear hW
      obtain ⟨c0, c1, c2, c3, c4, c5⟩ := At.z6 HB.out.at0
      have lc := HB.out.lt
      go_wp2_with (first | (go_at_call 48; (with_reducible refine (AY.out _ HP.out.fut).mono ?_); rintro e w9 ⟨rfl, hp9, hb9⟩; have HP9 := hide hp9; clear hp9))
      refine bodyPost_ret (results_none rfl _ _ _) rfl ?_
      exact ⟨rfl, HP9.out, ((Kp.of_fut (inferInstance : Fut w W) (by omega)).trans hb9)⟩
end Go.Proofs.YtoibfefalflooaaDoor
