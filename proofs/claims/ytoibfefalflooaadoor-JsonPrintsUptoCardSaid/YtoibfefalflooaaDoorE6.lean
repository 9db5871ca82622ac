/-
  The document's printer: a value, whole.
-/
import Derived.Test.YtoibfefalflooaaDoorE5
namespace Go.Proofs.YtoibfefalflooaaDoor
open Go.RowKit

theorem fut_tr {a b c : World} (h : Fut a b) (k : Fut b c) : Fut a c := ⟨h.below.trans (k.below.mono h.below.size)⟩
set_option maxRecDepth 100000 in
set_option maxHeartbeats 8000000 in
theorem rval4_deep (bb : Bool) (n : Int) (s : ByteArray) (A : Option Addr) (c : Nat) (l : List T) (AK : Option Addr) (cK : Nat) (ks : List ByteArray) : RVAL (.mk 4 bb n s A c l AK cK ks) 0 := by
  intro g r wg w hgs hrd hsm hf hp
  rw [RdT] at hrd
  rw [SmT] at hsm
  obtain ⟨hA, hAK, ⟨hl1, hl2⟩, _, _, _, hrs⟩ := hrd
  have HP := hide hp
  have hlt := hp.lt
  rw [T.cells]
  obtain ⟨nl, hnl⟩ : ∃ x, l.length = x := ⟨_, rfl⟩
  obtain ⟨nk, hnk⟩ : ∃ x, ks.length = x := ⟨_, rfl⟩
  rw [hnl, hnk]
  rw [show (andE r fun o => prV (T.j (.mk 4 bb n s A c l AK cK ks)) 0 o) = andE r (fun _ => .error 301) from andE_congr (fun o => by rw [T.j, prV, if_neg (by decide), if_neg (by decide), if_neg (by decide), if_neg (by decide), if_pos rfl, if_pos rfl])]
  obtain ⟨W, hW⟩ : ∃ W : World, W = w.alloc (.cells #[.int .i64 4, .bool bb, .int .i64 n, .string s, .slice A nl c, .slice AK nk cK] 25) := ⟨_, rfl⟩
  have HB : Hid (Blk W w.heap.size 25 [.int .i64 4, .bool bb, .int .i64 n, .string s, .slice A nl c, .slice AK nk cK]) := by rw [hW]; exact Blk.new w _ 25
  have SW : Step w W := by rw [hW]; exact Step.of
  have AY := hide (fun w' (hp : DRep w' g r) => rfail_rep g r 301 (by decide) w' hp)
  clear hrs hsm hA hAK hnl hnk hp hgs
  go_enter Tryd.func29, Tryd.ntmps29
  go_upto_region 1 with fail
  rw [← hW]
  clear hW
  obtain ⟨c0, c1, c2, c3, c4, c5⟩ := At.z6 HB.out.at0
  have lc := HB.out.lt
  go_wp2_with (first | (go_at_call 48; go_loud (with_reducible refine (AY.out _ HP.out.fut).mono ?_); rintro e w9 ⟨rfl, hp9, hb9⟩; have HP9 := hide hp9; clear hp9))
  first | go_end0 | refine bodyPost_ret (results_none rfl _ _ _) rfl ?_
  exact ⟨rfl, HP9.out, ((Kp.of_fut (inferInstance : Fut w W) (by omega)).trans hb9)⟩
set_option maxRecDepth 100000 in
set_option maxHeartbeats 8000000 in
theorem rval4_ok (dd : Nat) (hdd : dd + 1 ≤ 16) (bb : Bool) (n : Int) (s : ByteArray) (A : Option Addr) (c : Nat) (l : List T) (AK : Option Addr) (cK : Nat) (ks : List ByteArray) (IH : ∀ t ∈ l, RVAL t dd) : RVAL (.mk 4 bb n s A c l AK cK ks) (dd + 1) := by
  intro g r wg w hgs hrd hsm hf hp
  rw [RdT] at hrd
  rw [SmT] at hsm
  obtain ⟨hA, hAK, ⟨hl1, hl2⟩, _, _, _, hrs⟩ := hrd
  have HP := hide hp
  have hlt := hp.lt
  rw [T.cells]
  obtain ⟨nl, hnl⟩ : ∃ x, l.length = x := ⟨_, rfl⟩
  obtain ⟨nk, hnk⟩ : ∃ x, ks.length = x := ⟨_, rfl⟩
  rw [hnl, hnk]
  rw [show (andE r fun o => prV (T.j (.mk 4 bb n s A c l AK cK ks)) (dd + 1) o) = andE r (fun o => andE (addE o [91]) fun o => andE (prL (T.js l) dd false ks true o) fun o => addE o [93]) from andE_congr (fun o => by rw [T.j, prV, if_neg (by decide), if_neg (by decide), if_neg (by decide), if_neg (by decide), if_pos rfl, if_neg (by omega)]; rfl)]
  obtain ⟨D, hD⟩ : ∃ D : Int, (16 - ((dd + 1 : Nat) : Int)) = D := ⟨_, rfl⟩
  have hD2 : D + 1 = 16 - (dd : Int) := by omega
  have hDD : ¬ D + 1 > 16 := by omega
  have hD3 : 0 ≤ D := by omega
  have hD4 : D ≤ 16 := by omega
  rw [hD]
  obtain ⟨W, hW⟩ : ∃ W : World, W = w.alloc (.cells #[.int .i64 4, .bool bb, .int .i64 n, .string s, .slice A nl c, .slice AK nk cK] 25) := ⟨_, rfl⟩
  have HB : Hid (Blk W w.heap.size 25 [.int .i64 4, .bool bb, .int .i64 n, .string s, .slice A nl c, .slice AK nk cK]) := by rw [hW]; exact Blk.new w _ 25
  have SW : Step w W := by rw [hW]; exact Step.of
  have MM : Hid (∀ w' (hfx : Fut wg w') (hp : DRep w' g r), Calls Tryd.prog 51 #[.pointer (some ⟨g, 0, none⟩), .agg #[.int .i64 4, .bool bb, .int .i64 n, .string s, .slice A nl c, .slice AK nk cK], .int .i64 (D + 1)] w' fun e w'' => e = .returned (.tuple #[]) ∧ DRep w'' g (andE r (fun o => andE (addE o [91]) fun o => andE (prL (T.js l) dd false ks true o) fun o => addE o [93])) ∧ Kp g w' w'') := fun w' hfx hp => by rw [hD2]; exact rmem_list bb n s A nl c l AK nk cK ks hnl hnk (by omega) dd IH g r wg w' hgs hA hrs hsm.2.2 hfx hp
  clear hrs hsm hA hAK hnl hnk hp hgs hD hD2
  go_enter Tryd.func29, Tryd.ntmps29
  go_upto_region 1 with fail
  rw [← hW]
  clear hW
  obtain ⟨c0, c1, c2, c3, c4, c5⟩ := At.z6 HB.out.at0
  have lc := HB.out.lt
  go_wp2_with (first | (go_at_call 51; go_loud (with_reducible refine (MM.out _ (fut_tr (fut_tr hf (inferInstance : Fut w W)) inferInstance) HP.out.fut).mono ?_); rintro e w9 ⟨rfl, hp9, hb9⟩; have HP9 := hide hp9; clear hp9))
  first | go_end0 | refine bodyPost_ret (results_none rfl _ _ _) rfl ?_
  exact ⟨rfl, HP9.out, ((Kp.of_fut (inferInstance : Fut w W) (by omega)).trans hb9)⟩
set_option maxRecDepth 100000 in
set_option maxHeartbeats 8000000 in
theorem rval5_deep (bb : Bool) (n : Int) (s : ByteArray) (A : Option Addr) (c : Nat) (l : List T) (AK : Option Addr) (cK : Nat) (ks : List ByteArray) : RVAL (.mk 5 bb n s A c l AK cK ks) 0 := by
  intro g r wg w hgs hrd hsm hf hp
  rw [RdT] at hrd
  rw [SmT] at hsm
  obtain ⟨hA, hAK, ⟨hl1, hl2⟩, _, _, _, hrs⟩ := hrd
  have HP := hide hp
  have hlt := hp.lt
  rw [T.cells]
  obtain ⟨nl, hnl⟩ : ∃ x, l.length = x := ⟨_, rfl⟩
  obtain ⟨nk, hnk⟩ : ∃ x, ks.length = x := ⟨_, rfl⟩
  rw [hnl, hnk]
  rw [show (andE r fun o => prV (T.j (.mk 5 bb n s A c l AK cK ks)) 0 o) = andE r (fun _ => .error 301) from andE_congr (fun o => by rw [T.j, prV, if_neg (by decide), if_neg (by decide), if_neg (by decide), if_neg (by decide), if_neg (by decide), if_pos rfl, if_pos rfl])]
  obtain ⟨W, hW⟩ : ∃ W : World, W = w.alloc (.cells #[.int .i64 5, .bool bb, .int .i64 n, .string s, .slice A nl c, .slice AK nk cK] 25) := ⟨_, rfl⟩
  have HB : Hid (Blk W w.heap.size 25 [.int .i64 5, .bool bb, .int .i64 n, .string s, .slice A nl c, .slice AK nk cK]) := by rw [hW]; exact Blk.new w _ 25
  have SW : Step w W := by rw [hW]; exact Step.of
  have AY := hide (fun w' (hp : DRep w' g r) => rfail_rep g r 301 (by decide) w' hp)
  clear hrs hsm hA hAK hnl hnk hp hgs
  go_enter Tryd.func29, Tryd.ntmps29
  go_upto_region 1 with fail
  rw [← hW]
  clear hW
  obtain ⟨c0, c1, c2, c3, c4, c5⟩ := At.z6 HB.out.at0
  have lc := HB.out.lt
  go_wp2_with (first | (go_at_call 48; go_loud (with_reducible refine (AY.out _ HP.out.fut).mono ?_); rintro e w9 ⟨rfl, hp9, hb9⟩; have HP9 := hide hp9; clear hp9))
  first | go_end0 | refine bodyPost_ret (results_none rfl _ _ _) rfl ?_
  exact ⟨rfl, HP9.out, ((Kp.of_fut (inferInstance : Fut w W) (by omega)).trans hb9)⟩
set_option maxRecDepth 100000 in
set_option maxHeartbeats 8000000 in
theorem rval5_bad (dd : Nat) (hdd : dd + 1 ≤ 16) (bb : Bool) (n : Int) (s : ByteArray) (A : Option Addr) (c : Nat) (l : List T) (AK : Option Addr) (cK : Nat) (ks : List ByteArray) (hkb : ¬ (ks.length = (T.js l).length ∧ keysF [] ks = true)) : RVAL (.mk 5 bb n s A c l AK cK ks) (dd + 1) := by
  intro g r wg w hgs hrd hsm hf hp
  rw [RdT] at hrd
  rw [SmT] at hsm
  obtain ⟨hA, hAK, ⟨hl1, hl2⟩, _, _, _, hrs⟩ := hrd
  have HP := hide hp
  have hlt := hp.lt
  rw [T.cells]
  obtain ⟨nl, hnl⟩ : ∃ x, l.length = x := ⟨_, rfl⟩
  obtain ⟨nk, hnk⟩ : ∃ x, ks.length = x := ⟨_, rfl⟩
  rw [hnl, hnk]
  rw [show (andE r fun o => prV (T.j (.mk 5 bb n s A c l AK cK ks)) (dd + 1) o) = andE r (fun _ => .error 300) from andE_congr (fun o => by rw [T.j, prV, if_neg (by decide), if_neg (by decide), if_neg (by decide), if_neg (by decide), if_neg (by decide), if_pos rfl, if_neg (by omega), if_neg hkb])]
  obtain ⟨D, hD⟩ : ∃ D : Int, (16 - ((dd + 1 : Nat) : Int)) = D := ⟨_, rfl⟩
  have hD2 : D + 1 = 16 - (dd : Int) := by omega
  have hDD : ¬ D + 1 > 16 := by omega
  have hD3 : 0 ≤ D := by omega
  have hD4 : D ≤ 16 := by omega
  rw [hD]
  obtain ⟨W, hW⟩ : ∃ W : World, W = w.alloc (.cells #[.int .i64 5, .bool bb, .int .i64 n, .string s, .slice A nl c, .slice AK nk cK] 25) := ⟨_, rfl⟩
  have HB : Hid (Blk W w.heap.size 25 [.int .i64 5, .bool bb, .int .i64 n, .string s, .slice A nl c, .slice AK nk cK]) := by rw [hW]; exact Blk.new w _ 25
  have SW : Step w W := by rw [hW]; exact Step.of
  have KY : Hid (∀ w' (hfx : Fut wg w'), Calls Tryd.prog 50 #[.agg #[.int .i64 5, .bool bb, .int .i64 n, .string s, .slice A nl c, .slice AK nk cK]] w' fun e w'' => e = .returned (.bool false) ∧ Step w' w'') := fun w' hfx => rkeys_any 5 bb n s A nl c AK nk cK ks hnk hsm.2.1 (by omega) false (by rw [← hnl, ← hnk]; rw [js_map, List.length_map] at hkb; cases h1 : keysF [] ks with | true => (rw [decide_eq_false (fun h2 => hkb ⟨h2, h1⟩)]; rfl) | false => rw [Bool.and_false]) w' hAK.fut
  have AY := hide (fun w' (hp : DRep w' g r) => rfail_rep g r 300 (by decide) w' hp)
  clear hrs hsm hA hAK hnl hnk hp hgs hD hD2
  go_enter Tryd.func29, Tryd.ntmps29
  go_upto_region 1 with fail
  rw [← hW]
  clear hW
  obtain ⟨c0, c1, c2, c3, c4, c5⟩ := At.z6 HB.out.at0
  have lc := HB.out.lt
  go_wp2_with (first | (go_at_call 50; go_loud (with_reducible refine (KY.out _ (fut_tr (fut_tr hf (inferInstance : Fut w W)) inferInstance)).mono ?_); rintro e w3 ⟨rfl, hs3⟩; clear c0 c1 c2 c3 c4 c5 lc; obtain ⟨c0, c1, c2, c3, c4, c5⟩ := At.z6 (HB.out.fut (w' := w3)).at0; have lc := (HB.out.fut (w' := w3)).lt) | (go_at_call 48; go_loud (with_reducible refine (AY.out _ HP.out.fut).mono ?_); rintro e w9 ⟨rfl, hp9, hb9⟩; have HP9 := hide hp9; clear hp9))
  first | go_end0 | refine bodyPost_ret (results_none rfl _ _ _) rfl ?_
  exact ⟨rfl, HP9.out, ((Kp.of_fut (inferInstance : Fut w w3) (by omega)).trans hb9)⟩
set_option maxRecDepth 100000 in
set_option maxHeartbeats 8000000 in
theorem rval5_ok (dd : Nat) (hdd : dd + 1 ≤ 16) (bb : Bool) (n : Int) (s : ByteArray) (A : Option Addr) (c : Nat) (l : List T) (AK : Option Addr) (cK : Nat) (ks : List ByteArray) (hkb : ks.length = (T.js l).length ∧ keysF [] ks = true) (IH : ∀ t ∈ l, RVAL t dd) : RVAL (.mk 5 bb n s A c l AK cK ks) (dd + 1) := by
  intro g r wg w hgs hrd hsm hf hp
  rw [RdT] at hrd
  rw [SmT] at hsm
  obtain ⟨hA, hAK, ⟨hl1, hl2⟩, _, _, _, hrs⟩ := hrd
  have HP := hide hp
  have hlt := hp.lt
  rw [T.cells]
  obtain ⟨nl, hnl⟩ : ∃ x, l.length = x := ⟨_, rfl⟩
  obtain ⟨nk, hnk⟩ : ∃ x, ks.length = x := ⟨_, rfl⟩
  rw [hnl, hnk]
  rw [show (andE r fun o => prV (T.j (.mk 5 bb n s A c l AK cK ks)) (dd + 1) o) = andE r (fun o => andE (addE o [123]) fun o => andE (prL (T.js l) dd true ks true o) fun o => addE o [125]) from andE_congr (fun o => by rw [T.j, prV, if_neg (by decide), if_neg (by decide), if_neg (by decide), if_neg (by decide), if_neg (by decide), if_pos rfl, if_neg (by omega), if_pos hkb]; rfl)]
  obtain ⟨D, hD⟩ : ∃ D : Int, (16 - ((dd + 1 : Nat) : Int)) = D := ⟨_, rfl⟩
  have hD2 : D + 1 = 16 - (dd : Int) := by omega
  have hDD : ¬ D + 1 > 16 := by omega
  have hD3 : 0 ≤ D := by omega
  have hD4 : D ≤ 16 := by omega
  rw [hD]
  obtain ⟨W, hW⟩ : ∃ W : World, W = w.alloc (.cells #[.int .i64 5, .bool bb, .int .i64 n, .string s, .slice A nl c, .slice AK nk cK] 25) := ⟨_, rfl⟩
  have HB : Hid (Blk W w.heap.size 25 [.int .i64 5, .bool bb, .int .i64 n, .string s, .slice A nl c, .slice AK nk cK]) := by rw [hW]; exact Blk.new w _ 25
  have SW : Step w W := by rw [hW]; exact Step.of
  have KY : Hid (∀ w' (hfx : Fut wg w'), Calls Tryd.prog 50 #[.agg #[.int .i64 5, .bool bb, .int .i64 n, .string s, .slice A nl c, .slice AK nk cK]] w' fun e w'' => e = .returned (.bool true) ∧ Step w' w'') := fun w' hfx => rkeys_any 5 bb n s A nl c AK nk cK ks hnk hsm.2.1 (by omega) true (by rw [← hnl, ← hnk]; rw [js_map, List.length_map] at hkb; rw [decide_eq_true hkb.1, hkb.2]; rfl) w' hAK.fut
  have MM : Hid (∀ w' (hfx : Fut wg w') (hp : DRep w' g r), Calls Tryd.prog 51 #[.pointer (some ⟨g, 0, none⟩), .agg #[.int .i64 5, .bool bb, .int .i64 n, .string s, .slice A nl c, .slice AK nk cK], .int .i64 (D + 1)] w' fun e w'' => e = .returned (.tuple #[]) ∧ DRep w'' g (andE r (fun o => andE (addE o [123]) fun o => andE (prL (T.js l) dd true ks true o) fun o => addE o [125])) ∧ Kp g w' w'') := fun w' hfx hp => by rw [hD2]; exact rmem_obj bb n s A nl c l AK nk cK ks hnl hnk (by omega) (by rw [← hnl, ← hnk]; rw [js_map, List.length_map] at hkb; exact hkb.1) (keysF_valid hkb.2) dd IH g r wg w' hgs hA hrs hsm.2.2 hAK hsm.2.1 hfx hp
  clear hrs hsm hA hAK hnl hnk hp hgs hD hD2
  go_enter Tryd.func29, Tryd.ntmps29
  go_upto_region 1 with fail
  rw [← hW]
  clear hW
  obtain ⟨c0, c1, c2, c3, c4, c5⟩ := At.z6 HB.out.at0
  have lc := HB.out.lt
  go_wp2_with (first | (go_at_call 50; go_loud (with_reducible refine (KY.out _ (fut_tr (fut_tr hf (inferInstance : Fut w W)) inferInstance)).mono ?_); rintro e w3 ⟨rfl, hs3⟩; clear c0 c1 c2 c3 c4 c5 lc; obtain ⟨c0, c1, c2, c3, c4, c5⟩ := At.z6 (HB.out.fut (w' := w3)).at0; have lc := (HB.out.fut (w' := w3)).lt) | (go_at_call 51; go_loud (with_reducible refine (MM.out _ (fut_tr (fut_tr hf (inferInstance : Fut w W)) inferInstance) HP.out.fut).mono ?_); rintro e w9 ⟨rfl, hp9, hb9⟩; have HP9 := hide hp9; clear hp9))
  first | go_end0 | refine bodyPost_ret (results_none rfl _ _ _) rfl ?_
  exact ⟨rfl, HP9.out, ((Kp.of_fut (inferInstance : Fut w w3) (by omega)).trans hb9)⟩
mutual
/-- A value is written as the document says. -/
theorem rval_any : ∀ (t : T) (d : Nat), d ≤ 16 → RVAL t d
  | .mk k b n s A c l AK cK ks, d, hd => by
    by_cases h4 : k = 4
    · subst h4
      cases d with
      | zero => exact rval4_deep b n s A c l AK cK ks
      | succ e => exact rval4_ok e hd b n s A c l AK cK ks (fun x hx => rvals_any l x hx e (by omega))
    · by_cases h5 : k = 5
      · subst h5
        cases d with
        | zero => exact rval5_deep b n s A c l AK cK ks
        | succ e =>
          by_cases hk : ks.length = (T.js l).length ∧ keysF [] ks = true
          · exact rval5_ok e hd b n s A c l AK cK ks hk (fun x hx => rvals_any l x hx e (by omega))
          · exact rval5_bad e hd b n s A c l AK cK ks hk
      · exact rval_leaf _ d ⟨h4, h5⟩
theorem rvals_any : ∀ (l : List T), ∀ x ∈ l, ∀ d, d ≤ 16 → RVAL x d
  | [], x, hx, _, _ => by cases hx
  | t :: r, x, hx, d, hd => by
    rcases List.mem_cons.1 hx with h | h
    · rw [h]; exact rval_any t d hd
    · exact rvals_any r x h d hd
end
end Go.Proofs.YtoibfefalflooaaDoor
