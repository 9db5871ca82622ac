/-
  The program's printer: a value.
-/
import Derived.Test.YtoibfefalflooaaDoorJv
namespace Go.Proofs.YtoibfefalflooaaDoor
open Go.RowKit

/-- The library's table of the powers of ten lies where the start laid it. -/
structure Tab (w : World) : Prop where
  at_ : Go.Lib.TabIs Tryd.prog w "internal/strconv.uint64pow10" .u64 Go.Lib.pow10Tab
theorem Tab.fut {w w' : World} (h : Tab w) [k : Fut w w'] : Tab w' := by
  have h1 := h.at_
  refine ⟨?_⟩
  unfold Go.Lib.TabIs World.var? at h1 ⊢
  cases hg : Tryd.prog.globalNamed "internal/strconv.uint64pow10" with
  | none => rw [hg] at h1; cases h1
  | some g =>
    rw [hg] at h1
    simp only [Option.bind_some] at h1 ⊢
    have hlt : g < w.heap.size := by
      cases e : w.heap[g]? with
      | none => rw [e] at h1; cases h1
      | some o => exact (Array.getElem?_eq_some_iff.1 e).1
    rw [k.below.block g hlt]
    exact h1
theorem below_grow (w : World) (q : Nat) (os : Array Obj) : Below w.heap.size w (Go.Sort.grow (w.drewN q) os) :=
  ⟨rfl, rfl, rfl, by simp [Go.Sort.grow], fun k hk => by simp [Go.Sort.grow, Array.getElem?_append, hk]⟩
theorem dec_len : ∀ (k v : Nat), v < 10 ^ (k + 1) → (Go.Lib.decDigits v).length ≤ k + 1
  | 0, v, h => by rw [Go.Lib.decDigits, dif_pos (by simpa using h)]; simp
  | k + 1, v, h => by
    rw [Go.Lib.decDigits]
    split
    · simp
    · have := dec_len k (v / 10) (by rw [Nat.pow_succ] at h; omega)
      rw [List.length_append]
      simp only [List.length_cons, List.length_nil]
      omega
theorem itoa_len {n : Int} (h0 : -9223372036854775808 ≤ n) (h1 : n ≤ 9223372036854775807) : (Go.Lib.itoa n).length ≤ 20 := by
  unfold Go.Lib.itoa
  split
  · have := dec_len 18 n.natAbs (by omega)
    rw [List.length_cons]
    omega
  · have := dec_len 18 n.toNat (by omega)
    omega
theorem At.o6 {w : World} {b o : Nat} {x0 x1 x2 x3 x4 x5 : Value} (h : At w b o [x0, x1, x2, x3, x4, x5]) : w.cell? ⟨b, o, none⟩ = some x0 ∧ w.cell? ⟨b, o + 1, none⟩ = some x1 ∧ w.cell? ⟨b, o + 2, none⟩ = some x2 ∧ w.cell? ⟨b, o + 3, none⟩ = some x3 ∧ w.cell? ⟨b, o + 4, none⟩ = some x4 ∧ w.cell? ⟨b, o + 5, none⟩ = some x5 :=
  ⟨h 0 x0 rfl, h 1 x1 rfl, h 2 x2 rfl, h 3 x3 rfl, h 4 x4 rfl, h 5 x5 rfl⟩
theorem calls_err {f : FuncId} {args : Array Value} {g : Nat} {w : World} {r : Except Int (List UInt8)} {c : Int} (h : Calls Tryd.prog f args w fun e w' => PrR g r e w' ∧ Below g w w') (hr : r = .error c) : Calls Tryd.prog f args w fun e w' => e = .panicked [{ v := fault c, recovered := false }] ∧ Below g w w' := by
  subst hr; exact h
theorem calls_ok {f : FuncId} {args : Array Value} {g : Nat} {w : World} {r : Except Int (List UInt8)} {o : List UInt8} (h : Calls Tryd.prog f args w fun e w' => PrR g r e w' ∧ Below g w w') (hr : r = .ok o) : Calls Tryd.prog f args w fun e w' => e = .returned (.tuple #[]) ∧ PrOut w' g o ∧ Below g w w' := by
  subst hr; exact h.mono fun e w' hh => ⟨hh.1.1, hh.1.2, hh.2⟩
theorem ptext_any (g : Nat) (out : List UInt8) (s : ByteArray) (w : World) (h : PrOut w g out) (hs : s.size ≤ maxLen) :
    Calls Tryd.prog 45 #[.pointer (some ⟨g, 0, none⟩), .string s] w fun e w' => PrR g (textW s out) e w' ∧ Below g w w' := by
  have hs2 : s.size ≤ 9223372036854775807 := by simp only [maxLen] at hs; omega
  cases hv : validB s with
  | true => rw [textW_ok hv]; exact ptext_ok g out s w h hv hs2
  | false => rw [textW_bad hv]; exact (ptext_bad g s w hv hs2).mono fun e w' hh => ⟨hh.1, hh.2.below.mono (Nat.le_of_lt h.lt)⟩
/-- What writing a value does. -/
def VAL (t : T) (d : Nat) : Prop := ∀ (g b o : Nat) (out : List UInt8) (wg w : World), Tab wg → wg.heap.size = g → RdT wg t → At wg b o t.cells → b < g → Fut wg w → PrOut w g out →
  Calls Tryd.prog 28 #[.pointer (some ⟨g, 0, none⟩), .pointer (some ⟨b, o, none⟩), .int .i64 (16 - (d : Int))] w fun e w' => PrR g (prV t.j d out) e w' ∧ Below g w w'
/-- What a list or an object leads to, once it is opened. -/
def innE (j : J) (d : Nat) (out : List UInt8) : Except Int (List UInt8) :=
  match d with
  | 0 => .error 301
  | d + 1 => if j.k = 5 then (if j.ks.length = j.l.length ∧ keysF [] j.ks = true then andE (addE out [123]) fun o => andE (prL j.l d true j.ks true o) fun o => addE o [125] else .error 300) else andE (addE out [91]) fun o => andE (prL j.l d false j.ks true o) fun o => addE o [93]
theorem prV_inn {j : J} {d : Nat} {out : List UInt8} (h : j.k = 4 ∨ j.k = 5) : prV j d out = innE j d out := by
  cases j with
  | mk k b n s l ks =>
    have hk : k = 4 ∨ k = 5 := h
    cases d with
    | zero => rcases hk with rfl | rfl <;> (rw [prV]; simp [innE])
    | succ d =>
      rcases hk with rfl | rfl
      · rw [prV]; simp [innE, J.k, J.l, J.ks]
      · rw [prV]; simp [innE, J.k, J.l, J.ks]; rfl

set_option maxRecDepth 100000 in
set_option maxHeartbeats 8000000 in
theorem val_pleaf (t : T) (d : Nat) (hk : t.j.k ≠ 4 ∧ t.j.k ≠ 5) : VAL t d := by
  intro g b o out wg w htb hgs hrd hat hbg hf hp
  cases t with
  | mk k bb n s A c l AK cK ks =>
    rw [RdT] at hrd
    obtain ⟨_, _, _, ⟨hkb, hn⟩, hs, _, _⟩ := hrd
    have hk4 : k ≠ 4 := hk.1
    have hk5 : k ≠ 5 := hk.2
    have hatw : At w b o (T.cells (.mk k bb n s A c l AK cK ks)) := hat.below hf.below (by omega)
    rw [T.cells] at hatw
    obtain ⟨c0, c1, c2, c3, c4, c5⟩ := At.o6 hatw
    have HP := hide hp
    have htw : Tab w := htb.fut
    have hlt := hp.lt
    obtain ⟨R, hR⟩ : ∃ R, prV (T.j (.mk k bb n s A c l AK cK ks)) d out = R := ⟨_, rfl⟩
    have HR := hide hR
    rw [hR]
    rw [T.j, prV] at hR
    clear hatw hat hk c4 c5 hgs
    by_cases hk0 : k = 0
    · subst hk0
      have AX := fun w' (hp : PrOut w' g out) => padd_any g out ⟨#[110, 117, 108, 108]⟩ w' hp (by decide)
      cases hr : addE out [110, 117, 108, 108] with
      | error ec =>
        have AY := hide (fun w' hp => calls_err (AX w' hp) hr)
        obtain rfl : R = .error ec := by rw [← hR, ← hr]; simp
        clear hr AX hR
        go_enter Tryd.func28, Tryd.ntmps28
        go_wp2_with (first | (go_at_call 42; (with_reducible refine (AY.out _ HP.out.fut).mono ?_); rintro e w2 ⟨rfl, hb2⟩))
        exact ⟨rfl, rfl, hb2⟩
      | ok oo =>
        have AY := hide (fun w' hp => calls_ok (AX w' hp) hr)
        obtain rfl : R = .ok oo := by rw [← hR, ← hr]; simp
        clear hr AX hR
        go_enter Tryd.func28, Tryd.ntmps28
        go_wp2_with (first | (go_at_call 42; (with_reducible refine (AY.out _ HP.out.fut).mono ?_); rintro e w2 ⟨rfl, hp2, hb2⟩; have HP2 := hide hp2; clear hp2))
        go_end0
        exact ⟨⟨rfl, HP2.out⟩, hb2⟩
    by_cases hk1 : k = 1
    · subst hk1
      have FB := hide (fun w' => Tryd.strconv_FormatBool bb w')
      have AX := fun w' (hp : PrOut w' g out) => padd_any g out ⟨(Go.Lib.formatBool bb).toArray⟩ w' hp (by cases bb <;> decide)
      cases hr : addE out (Go.Lib.formatBool bb) with
      | error ec =>
        have AY := hide (fun w' hp => calls_err (AX w' hp) hr)
        obtain rfl : R = .error ec := by rw [← hR, ← hr]; simp
        clear hr AX hR
        go_enter Tryd.func28, Tryd.ntmps28
        go_wp2_with (first | (go_at_call 43; (with_reducible refine (FB.out _).mono ?_); rintro e w1 ⟨rfl, rfl⟩) | (go_at_call 42; (with_reducible refine (AY.out _ HP.out.fut).mono ?_); rintro e w2 ⟨rfl, hb2⟩))
        exact ⟨rfl, rfl, hb2⟩
      | ok oo =>
        have AY := hide (fun w' hp => calls_ok (AX w' hp) hr)
        obtain rfl : R = .ok oo := by rw [← hR, ← hr]; simp
        clear hr AX hR
        go_enter Tryd.func28, Tryd.ntmps28
        go_wp2_with (first | (go_at_call 43; (with_reducible refine (FB.out _).mono ?_); rintro e w1 ⟨rfl, rfl⟩) | (go_at_call 42; (with_reducible refine (AY.out _ HP.out.fut).mono ?_); rintro e w2 ⟨rfl, hp2, hb2⟩; have HP2 := hide hp2; clear hp2))
        go_end0
        exact ⟨⟨rfl, HP2.out⟩, hb2⟩
    by_cases hk2 : k = 2
    · subst hk2
      have FI : Hid (Calls Tryd.prog 44 #[.int .i64 n] w fun e w' => e = .returned (.string ⟨(Go.Lib.itoa n).toArray⟩) ∧ Step w w') := (Tryd.strconv_Itoa n hn.1 hn.2 w htw.at_).mono fun e w' hh => ⟨hh.1, by obtain ⟨k, os, rfl⟩ := hh.2; exact ⟨below_grow _ _ _⟩⟩
      have AX := fun w' (hp : PrOut w' g out) => padd_any g out ⟨(Go.Lib.itoa n).toArray⟩ w' hp (by have := itoa_len hn.1 hn.2; show (Go.Lib.itoa n).toArray.size ≤ _; rw [List.size_toArray]; omega)
      cases hr : addE out (Go.Lib.itoa n) with
      | error ec =>
        have AY := hide (fun w' hp => calls_err (AX w' hp) hr)
        obtain rfl : R = .error ec := by rw [← hR, ← hr]; simp
        clear hr AX hR
        go_enter Tryd.func28, Tryd.ntmps28
        go_wp2_with (first | (go_at_call 44; (with_reducible refine FI.out.mono ?_); rintro e w1 ⟨rfl, hs1⟩) | (go_at_call 42; (with_reducible refine (AY.out _ HP.out.fut).mono ?_); rintro e w2 ⟨rfl, hb2⟩))
        exact ⟨rfl, rfl, ((fut w _).mono (by omega)).trans hb2⟩
      | ok oo =>
        have AY := hide (fun w' hp => calls_ok (AX w' hp) hr)
        obtain rfl : R = .ok oo := by rw [← hR, ← hr]; simp
        clear hr AX hR
        go_enter Tryd.func28, Tryd.ntmps28
        go_wp2_with (first | (go_at_call 44; (with_reducible refine FI.out.mono ?_); rintro e w1 ⟨rfl, hs1⟩) | (go_at_call 42; (with_reducible refine (AY.out _ HP.out.fut).mono ?_); rintro e w2 ⟨rfl, hp2, hb2⟩; have HP2 := hide hp2; clear hp2))
        go_end0
        exact ⟨⟨rfl, HP2.out⟩, ((fut w _).mono (by omega)).trans hb2⟩
    by_cases hk3 : k = 3
    · subst hk3
      have AX := fun w' (hp : PrOut w' g out) => ptext_any g out s w' hp hs
      cases hr : textW s out with
      | error ec =>
        have AY := hide (fun w' hp => calls_err (AX w' hp) hr)
        obtain rfl : R = .error ec := by rw [← hR, ← hr]; simp
        clear hr AX hR
        go_enter Tryd.func28, Tryd.ntmps28
        go_wp2_with (first | (go_at_call 45; (with_reducible refine (AY.out _ HP.out.fut).mono ?_); rintro e w2 ⟨rfl, hb2⟩))
        exact ⟨rfl, rfl, hb2⟩
      | ok oo =>
        have AY := hide (fun w' hp => calls_ok (AX w' hp) hr)
        obtain rfl : R = .ok oo := by rw [← hR, ← hr]; simp
        clear hr AX hR
        go_enter Tryd.func28, Tryd.ntmps28
        go_wp2_with (first | (go_at_call 45; (with_reducible refine (AY.out _ HP.out.fut).mono ?_); rintro e w2 ⟨rfl, hp2, hb2⟩; have HP2 := hide hp2; clear hp2))
        go_end0
        exact ⟨⟨rfl, HP2.out⟩, hb2⟩
    obtain rfl : R = .error 300 := by rw [← hR]; simp [hk0, hk1, hk2, hk3, hk4, hk5]
    have e0 : (k == 0) = false := beq_eq_false_iff_ne.2 hk0
    have e1 : (k == 1) = false := beq_eq_false_iff_ne.2 hk1
    have e2 : (k == 2) = false := beq_eq_false_iff_ne.2 hk2
    have e3 : (k == 3) = false := beq_eq_false_iff_ne.2 hk3
    have e4 : (k == 4) = false := beq_eq_false_iff_ne.2 hk4
    have e5 : (k == 5) = false := beq_eq_false_iff_ne.2 hk5
    clear hR hk0 hk1 hk2 hk3 hk4 hk5
    go_enter Tryd.func28, Tryd.ntmps28
    go_wp2_with (go_at_call 23; (with_reducible refine (bad_any _).mono ?_); rintro e w2 ⟨rfl, rfl⟩)
    exact ⟨rfl, rfl, Below.refl _ _⟩

/-- What inner does. -/
def INN (t : T) (d : Nat) : Prop := ∀ (g b o : Nat) (out : List UInt8) (wg w : World), Tab wg → wg.heap.size = g → RdT wg t → At wg b o t.cells → b < g → Fut wg w → PrOut w g out →
  Calls Tryd.prog 46 #[.pointer (some ⟨g, 0, none⟩), .pointer (some ⟨b, o, none⟩), .int .i64 (17 - (d : Int))] w fun e w' => PrR g (innE t.j d out) e w' ∧ Below g w w'
theorem prL_cons {j : J} {r : List J} {d : Nat} {obj : Bool} {ks : List ByteArray} {fst : Bool} {out : List UInt8} : prL (j :: r) d obj ks fst out =
    andE (if fst then .ok out else addE out [44]) fun o1 => andE (if obj then andE (textW (ks.headD ⟨#[]⟩) o1) fun o => addE o [58] else .ok o1) fun o2 => andE (prV j d o2) fun o3 => prL r d obj ks.tail false o3 := by rw [prL]
set_option maxRecDepth 100000 in
theorem inn_deep (t : T) : INN t 0 := by
  intro g b o out wg w htb hgs hrd hat hbg hf hp
  have hlt := hp.lt
  clear hat hrd
  go_enter Tryd.func46, Tryd.ntmps46
  go_wp2_with fail
  exact ⟨rfl, rfl, Below.refl _ _⟩

set_option maxRecDepth 100000 in
set_option maxHeartbeats 16000000 in
theorem inn_list (bb : Bool) (n : Int) (s : ByteArray) (A : Option Addr) (nl c : Nat) (l : List T) (AK : Option Addr) (nk cK : Nat) (ks : List ByteArray) (hl : l.length = nl) (hkl : ks.length = nk) (d : Nat) (hd : d + 1 ≤ 16) (IH : ∀ t ∈ l, VAL t d)
    (g b o : Nat) (out : List UInt8) (wg w : World) (htb : Tab wg) (hgs : wg.heap.size = g) (hlc : nl ≤ 4398046511104) (hA : SlAt wg wg.heap.size 6 A (l.map T.cells)) (hrd : RdTs wg l) (hAK : SlAt wg wg.heap.size 1 AK (strCells ks)) (hsz : ∀ q ∈ ks, q.size ≤ maxLen) (_hnk : nk ≤ 8796093022208)
    (hat : At wg b o [.int .i64 4, .bool bb, .int .i64 n, .string s, .slice A nl c, .slice AK nk cK]) (hbg : b < g) (hf : Fut wg w) (hp : PrOut w g out) (R : Except Int (List UInt8)) (hR : innE (.mk 4 bb n s (T.js l) ks) (d + 1) out = R) :
    Calls Tryd.prog 46 #[.pointer (some ⟨g, 0, none⟩), .pointer (some ⟨b, o, none⟩), .int .i64 (17 - ((d + 1 : Nat) : Int))] w fun e w' => PrR g R e w' ∧ Below g w w' := by
  have HP := hide hp
  have hlt := hp.lt
  have HL := hide hl; have HKL := hide hkl; have HIH := hide IH; have HA := hide hA; have HRD := hide hrd; have HAK := hide hAK; have HSZ := hide hsz; have HAT := hide hat; have HGS := hide hgs; have HTB := hide htb
  have hbw : b < wg.heap.size := by omega
  obtain ⟨D, hD⟩ : ∃ D : Int, (17 - ((d + 1 : Nat) : Int)) = D := ⟨_, rfl⟩
  have HD : Hid (D = 16 - (d : Int)) := by show _ = _; omega
  have hDD : ¬ D > 16 := by omega
  rw [hD]
  obtain ⟨c0, c1, c2, c3, c4, c5⟩ := At.o6 (hat.below (fut wg w) hbw)
  have HRI : Hid ((andE (addE out [91]) fun o => andE (prL (T.js l) d false ks true o) fun o => addE o [93]) = R) := by
    show _ = _
    rw [← hR, innE]
    rfl
  clear hR hD hat hrd hA hAK hsz hl hkl IH hgs htb
  cases ha : addE out [91] with
  | error ec =>
    have AY := hide (fun w' hp => calls_err (padd_any g out ⟨#[91]⟩ w' hp (by decide)) ha)
    obtain rfl : R = .error ec := by rw [← HRI.out, ha]; rfl
    clear ha
    go_enter Tryd.func46, Tryd.ntmps46
    go_wp2_with (first | (go_at_call 42; (with_reducible refine (AY.out _ HP.out.fut).mono ?_); rintro e w2 ⟨rfl, hb2⟩))
    exact ⟨rfl, rfl, hb2⟩
  | ok oa =>
    have AY := hide (fun w' hp => calls_ok (padd_any g out ⟨#[91]⟩ w' hp (by decide)) ha)
    have HRA : Hid ((andE (prL (T.js l) d false ks true oa) fun o => addE o [93]) = R) := by show _ = _; rw [← HRI.out, ha]; rfl
    clear ha
    go_enter Tryd.func46, Tryd.ntmps46
    go_upto_region 7 with (first | (go_at_call 42; (with_reducible refine (AY.out _ HP.out.fut).mono ?_); rintro e w2 ⟨rfl, hp2, hb2⟩; have HP2 := hide hp2; clear hp2))
    have HM2 : Hid (Below g w w2) := hb2
    have HF2 : Hid (Fut wg w2) := ⟨hf.below.trans (HM2.out.mono (by rw [HGS.out]; exact Nat.le_refl _))⟩
    clear hb2 c0 c1 c2 c3 c4 c5
    obtain ⟨c0, c1, c2, c3, c4, c5⟩ := At.o6 (HAT.out.below HF2.out.below hbw)
    go_wp2_with fail
    clear c0 c1 c2 c3 c4 c5
    go_loopw [28] (fun v28 wr => ∃ (k : Nat) (ok : List UInt8), k ≤ nl ∧ v28 = .int .i64 k ∧ Hid ((andE (prL ((T.js l).drop k) d false (ks.drop k) (decide (k = 0)) ok) fun o => addE o [93]) = R) ∧ PrOut wr g ok ∧ Below g w wr) (fun v28 _ => nl - (intOf v28).toNat)
    case atStart => exact ⟨0, oa, Nat.zero_le _, rfl, HRA.out, HP2.out, HM2.out⟩
    case round =>
      obtain ⟨k, ok, hk, rfl, HX, hpr, hbr⟩ := hrel
      have HP := hide hpr; have HM := hide hbr
      have hltr := hpr.lt
      clear HP2 HM2 HF2 HRA hpr hbr
      obtain ⟨wo, rfl⟩ : ∃ x : World, x = wr := ⟨_, rfl⟩
      have hfo : Fut wg wo := ⟨hf.below.trans (HM.out.mono (by rw [HGS.out]; exact Nat.le_refl _))⟩
      obtain ⟨c0, c1, c2, c3, c4, c5⟩ := At.o6 (HAT.out.below hfo.below hbw)
      by_cases hlt2 : k < nl
      · have hkl : (k : Int) < (nl : Int) := by omega
        have hk0 : (0 : Int) ≤ (k : Int) := by omega
        obtain ⟨bL, oL, rfl, hbL, hcL⟩ := HA.out.elem hfo (k := k) (by rw [List.length_map, HL.out]; exact hlt2)
        obtain ⟨tk, htk⟩ : ∃ tk, l[k]? = some tk := ⟨_, List.getElem?_eq_getElem (by rw [HL.out]; exact hlt2)⟩
        have HT : Hid (l[k]? = some tk) := htk
        have hdj : (T.js l).drop k = tk.j :: (T.js l).drop (k + 1) := by
          obtain ⟨h1, h2⟩ := List.getElem?_eq_some_iff.1 htk
          rw [js_map, List.drop_eq_getElem_cons (by rw [List.length_map]; exact h1), List.getElem_map, h2]
        have HAL : Hid (At wg bL (oL + k * 6) tk.cells) := by
          obtain ⟨b', o', e', hb', hc'⟩ := HA.out (by rw [List.length_map, HL.out]; omega)
          injection e' with e'; injection e' with e1 e2; subst e1 e2
          exact hc' k _ (by rw [List.getElem?_map, htk]; rfl)
        have VC := HIH.out tk (List.mem_of_getElem? htk) g bL (oL + k * 6)
        have HRT := hide (HRD.out.get htk)
        have HX2 := HX.out
        rw [hdj, prL_cons] at HX2
        clear hcL hdj htk
        by_cases hkz : k = 0
        · rw [decide_eq_true hkz] at HX2
          have hkp : ¬ (k : Int) > 0 := by omega
          clear hkz
          cases hr0 : prV tk.j d ok with
          | error ec =>
            have AY0 := hide (fun w' (hfx : Fut wg w') hp => calls_err (VC ok wg w' HTB.out HGS.out HRT.out HAL.out (by rw [← HGS.out]; exact hbL) hfx hp) hr0)
            rw [← HD.out] at AY0
            obtain rfl : R = .error ec := by rw [← HX2]; simp [andE, hr0]
            clear hr0 HX2
            go_wp2_with (first | (go_at_call 28; (with_reducible refine (AY0.out _ hfo HP.out).mono ?_); rintro e w4 ⟨rfl, hbx0⟩; have hbtw4 := hbx0))
            exact ⟨rfl, rfl, HM.out.trans hbtw4⟩
          | ok o0 =>
            have AY0 := hide (fun w' (hfx : Fut wg w') hp => calls_ok (VC ok wg w' HTB.out HGS.out HRT.out HAL.out (by rw [← HGS.out]; exact hbL) hfx hp) hr0)
            rw [← HD.out] at AY0
            have HXN : Hid ((andE (prL ((T.js l).drop (k + 1)) d false (ks.drop (k + 1)) (decide (k + 1 = 0)) o0) fun o => addE o [93]) = R) := by show _ = _; rw [← HX2]; simp [andE, hr0]
            clear hr0 HX2
            go_wp2_with (first | (go_at_call 28; (with_reducible refine (AY0.out _ hfo HP.out).mono ?_); rintro e w4 ⟨rfl, hpx0, hbx0⟩; have HPX0 := hide hpx0; have hbtw4 := hbx0; clear hpx0))
            go_roundw
            case rel => exact ⟨k + 1, o0, by omega, by go_num, HXN, HPX0.out, HM.out.trans hbtw4⟩
            case measure => simp [intOf]; omega
        · rw [decide_eq_false hkz] at HX2
          have hkp : (k : Int) > 0 := by omega
          clear hkz
          cases hr0 : addE ok [44] with
          | error ec =>
            have AY0 := hide (fun w' hp => calls_err (padd_any g ok ⟨#[44]⟩ w' hp (by decide)) hr0)
            obtain rfl : R = .error ec := by rw [← HX2]; simp [andE, hr0]
            clear hr0 HX2
            go_wp2_with (first | (go_at_call 42; (with_reducible refine (AY0.out _ HP.out).mono ?_); rintro e w4 ⟨rfl, hbx0⟩; have hbtw4 := hbx0))
            exact ⟨rfl, rfl, HM.out.trans hbtw4⟩
          | ok o0 =>
            have AY0 := hide (fun w' hp => calls_ok (padd_any g ok ⟨#[44]⟩ w' hp (by decide)) hr0)
            cases hr1 : prV tk.j d o0 with
            | error ec =>
              have AY1 := hide (fun w' (hfx : Fut wg w') hp => calls_err (VC o0 wg w' HTB.out HGS.out HRT.out HAL.out (by rw [← HGS.out]; exact hbL) hfx hp) hr1)
              rw [← HD.out] at AY1
              obtain rfl : R = .error ec := by rw [← HX2]; simp [andE, hr1, hr0]
              clear hr0 hr1 HX2
              go_wp2_with (first | (go_at_call 28; (with_reducible refine (AY1.out _ (⟨hf.below.trans ((HM.out.trans hbtw4).mono (by rw [HGS.out]; exact Nat.le_refl _))⟩ : Fut wg _) HPX0.out).mono ?_); rintro e w5 ⟨rfl, hbx1⟩; have hbtw5 := hbtw4.trans hbx1) | (go_at_call 42; (with_reducible refine (AY0.out _ HP.out).mono ?_); rintro e w4 ⟨rfl, hpx0, hbx0⟩; have HPX0 := hide hpx0; have hbtw4 := hbx0; clear hpx0; clear c0 c1 c2 c3 c4 c5; obtain ⟨c0, c1, c2, c3, c4, c5⟩ := At.o6 (HAT.out.below (hf.below.trans ((HM.out.trans hbtw4).mono (by rw [HGS.out]; exact Nat.le_refl _))) hbw)))
              exact ⟨rfl, rfl, HM.out.trans hbtw5⟩
            | ok o1 =>
              have AY1 := hide (fun w' (hfx : Fut wg w') hp => calls_ok (VC o0 wg w' HTB.out HGS.out HRT.out HAL.out (by rw [← HGS.out]; exact hbL) hfx hp) hr1)
              rw [← HD.out] at AY1
              have HXN : Hid ((andE (prL ((T.js l).drop (k + 1)) d false (ks.drop (k + 1)) (decide (k + 1 = 0)) o1) fun o => addE o [93]) = R) := by show _ = _; rw [← HX2]; simp [andE, hr0, hr1]
              clear hr0 hr1 HX2
              go_wp2_with (first | (go_at_call 28; (with_reducible refine (AY1.out _ (⟨hf.below.trans ((HM.out.trans hbtw4).mono (by rw [HGS.out]; exact Nat.le_refl _))⟩ : Fut wg _) HPX0.out).mono ?_); rintro e w5 ⟨rfl, hpx1, hbx1⟩; have HPX1 := hide hpx1; have hbtw5 := hbtw4.trans hbx1; clear hpx1) | (go_at_call 42; (with_reducible refine (AY0.out _ HP.out).mono ?_); rintro e w4 ⟨rfl, hpx0, hbx0⟩; have HPX0 := hide hpx0; have hbtw4 := hbx0; clear hpx0; clear c0 c1 c2 c3 c4 c5; obtain ⟨c0, c1, c2, c3, c4, c5⟩ := At.o6 (HAT.out.below (hf.below.trans ((HM.out.trans hbtw4).mono (by rw [HGS.out]; exact Nat.le_refl _))) hbw)))
              go_roundw
              case rel => exact ⟨k + 1, o1, by omega, by go_num, HXN, HPX1.out, HM.out.trans hbtw5⟩
              case measure => simp [intOf]; omega
      · obtain rfl : k = nl := by omega
        clear hlt2
        have HXE : Hid (addE ok [93] = R) := by show _ = _; rw [← HX.out, js_map, List.drop_eq_nil_of_le (by rw [List.length_map, HL.out]; exact Nat.le_refl _), prL]; rfl
        cases hr : addE ok [93] with
        | error ec =>
          have AY := hide (fun w' hp => calls_err (padd_any g ok ⟨#[93]⟩ w' hp (by decide)) hr)
          obtain rfl : R = .error ec := by rw [← HXE.out, hr]
          clear hr
          go_wp2_with (go_at_call 42; (with_reducible refine (AY.out _ HP.out).mono ?_); rintro e w4 ⟨rfl, hb4⟩)
          exact ⟨rfl, rfl, HM.out.trans hb4⟩
        | ok oz =>
          have AY := hide (fun w' hp => calls_ok (padd_any g ok ⟨#[93]⟩ w' hp (by decide)) hr)
          obtain rfl : R = .ok oz := by rw [← HXE.out, hr]
          clear hr
          go_wp2_with (go_at_call 42; (with_reducible refine (AY.out _ HP.out).mono ?_); rintro e w4 ⟨rfl, hp4, hb4⟩; have HP4 := hide hp4; clear hp4)
          go_end0
          exact ⟨⟨rfl, HP4.out⟩, HM.out.trans hb4⟩

set_option maxRecDepth 100000 in
set_option maxHeartbeats 16000000 in
theorem inn_obj (bb : Bool) (n : Int) (s : ByteArray) (A : Option Addr) (nl c : Nat) (l : List T) (AK : Option Addr) (nk cK : Nat) (ks : List ByteArray) (hl : l.length = nl) (hkl : ks.length = nk) (d : Nat) (hd : d + 1 ≤ 16) (IH : ∀ t ∈ l, VAL t d)
    (g b o : Nat) (out : List UInt8) (wg w : World) (htb : Tab wg) (hgs : wg.heap.size = g) (hlc : nl ≤ 4398046511104) (hA : SlAt wg wg.heap.size 6 A (l.map T.cells)) (hrd : RdTs wg l) (hAK : SlAt wg wg.heap.size 1 AK (strCells ks)) (hsz : ∀ q ∈ ks, q.size ≤ maxLen) (hnk : nk ≤ 8796093022208)
    (hat : At wg b o [.int .i64 5, .bool bb, .int .i64 n, .string s, .slice A nl c, .slice AK nk cK]) (hbg : b < g) (hf : Fut wg w) (hp : PrOut w g out) (R : Except Int (List UInt8)) (hR : innE (.mk 5 bb n s (T.js l) ks) (d + 1) out = R) :
    Calls Tryd.prog 46 #[.pointer (some ⟨g, 0, none⟩), .pointer (some ⟨b, o, none⟩), .int .i64 (17 - ((d + 1 : Nat) : Int))] w fun e w' => PrR g R e w' ∧ Below g w w' := by
  have HP := hide hp
  have hlt := hp.lt
  have HL := hide hl; have HKL := hide hkl; have HIH := hide IH; have HA := hide hA; have HRD := hide hrd; have HAK := hide hAK; have HSZ := hide hsz; have HAT := hide hat; have HGS := hide hgs; have HTB := hide htb
  have hbw : b < wg.heap.size := by omega
  obtain ⟨D, hD⟩ : ∃ D : Int, (17 - ((d + 1 : Nat) : Int)) = D := ⟨_, rfl⟩
  have HD : Hid (D = 16 - (d : Int)) := by show _ = _; omega
  have hDD : ¬ D > 16 := by omega
  rw [hD]
  obtain ⟨c0, c1, c2, c3, c4, c5⟩ := At.o6 (hat.below (fut wg w) hbw)
  obtain ⟨B, hB⟩ : ∃ B, B = (decide (nk = nl) && keysF [] ks) := ⟨_, rfl⟩
  have KY := pkeys_any b o A nl c AK nk cK ks B w c4 c5 (Nat.lt_of_lt_of_le hbw hf.below.size) hAK.fut hkl hsz hnk hB
  cases B with
  | false =>
    have KY : Hid (Calls Tryd.prog 60 #[.pointer (some ⟨b, o, none⟩)] w fun e w' => e = .panicked [{ v := fault 300, recovered := false }] ∧ Step w w') := KY
    obtain rfl : R = .error 300 := by
      rw [← hR, innE, if_pos (show (J.mk 5 bb n s (T.js l) ks).k = 5 from rfl)]
      exact if_neg (fun hh => by
        have h1 : ks.length = (T.js l).length := hh.1
        have h2 : keysF [] ks = true := hh.2
        rw [js_map, List.length_map, hkl, hl] at h1
        rw [h2, decide_eq_true h1] at hB
        cases hB)
    clear hR hD hB hat hrd hA hAK hsz hl hkl IH hgs htb
    go_enter Tryd.func46, Tryd.ntmps46
    go_wp2_with (go_at_call 60; (with_reducible refine KY.out.mono ?_); rintro e w1 ⟨rfl, hs1⟩)
    exact ⟨rfl, rfl, (fut w w1).mono (by omega)⟩
  | true =>
  have KY : Hid (Calls Tryd.prog 60 #[.pointer (some ⟨b, o, none⟩)] w fun e w' => e = .returned (.tuple #[]) ∧ Step w w') := KY
  have HNN : Hid (nk = nl) := by
    show _ = _
    by_cases h : nk = nl
    · exact h
    · rw [decide_eq_false h] at hB; cases hB
  have HRI : Hid ((andE (addE out [123]) fun o => andE (prL (T.js l) d true ks true o) fun o => addE o [125]) = R) := by
    show _ = _
    rw [← hR, innE, if_pos (show (J.mk 5 bb n s (T.js l) ks).k = 5 from rfl)]
    exact (if_pos ⟨by show ks.length = (T.js l).length; rw [js_map, List.length_map, hkl, hl]; exact HNN.out, by
      rw [eq_comm, Bool.and_eq_true] at hB; exact hB.2⟩).symm
  clear hB
  clear hR hD hat hrd hA hAK hsz hl hkl IH hgs htb
  cases ha : addE out [123] with
  | error ec =>
    have AY := hide (fun w' hp => calls_err (padd_any g out ⟨#[123]⟩ w' hp (by decide)) ha)
    obtain rfl : R = .error ec := by rw [← HRI.out, ha]; rfl
    clear ha
    go_enter Tryd.func46, Tryd.ntmps46
    go_wp2_with (first | (go_at_call 60; (with_reducible refine KY.out.mono ?_); rintro e w1 ⟨rfl, hs1⟩; clear c0 c1 c2 c3 c4 c5; obtain ⟨c0, c1, c2, c3, c4, c5⟩ := At.o6 (HAT.out.below (fut wg w1) hbw)) | (go_at_call 42; (with_reducible refine (AY.out _ HP.out.fut).mono ?_); rintro e w2 ⟨rfl, hb2⟩))
    exact ⟨rfl, rfl, ((fut w _).mono (by omega)).trans hb2⟩
  | ok oa =>
    have AY := hide (fun w' hp => calls_ok (padd_any g out ⟨#[123]⟩ w' hp (by decide)) ha)
    have HRA : Hid ((andE (prL (T.js l) d true ks true oa) fun o => addE o [125]) = R) := by show _ = _; rw [← HRI.out, ha]; rfl
    clear ha
    go_enter Tryd.func46, Tryd.ntmps46
    go_upto_region 7 with (first | (go_at_call 60; (with_reducible refine KY.out.mono ?_); rintro e w1 ⟨rfl, hs1⟩; clear c0 c1 c2 c3 c4 c5; obtain ⟨c0, c1, c2, c3, c4, c5⟩ := At.o6 (HAT.out.below (fut wg w1) hbw)) | (go_at_call 42; (with_reducible refine (AY.out _ HP.out.fut).mono ?_); rintro e w2 ⟨rfl, hp2, hb2⟩; have HP2 := hide hp2; clear hp2))
    have HM2 : Hid (Below g w w2) := ((fut w _).mono (by omega)).trans hb2
    have HF2 : Hid (Fut wg w2) := ⟨hf.below.trans (HM2.out.mono (by rw [HGS.out]; exact Nat.le_refl _))⟩
    clear hb2 c0 c1 c2 c3 c4 c5
    obtain ⟨c0, c1, c2, c3, c4, c5⟩ := At.o6 (HAT.out.below HF2.out.below hbw)
    go_wp2_with fail
    clear c0 c1 c2 c3 c4 c5
    go_loopw [28] (fun v28 wr => ∃ (k : Nat) (ok : List UInt8), k ≤ nl ∧ v28 = .int .i64 k ∧ Hid ((andE (prL ((T.js l).drop k) d true (ks.drop k) (decide (k = 0)) ok) fun o => addE o [125]) = R) ∧ PrOut wr g ok ∧ Below g w wr) (fun v28 _ => nl - (intOf v28).toNat)
    case atStart => exact ⟨0, oa, Nat.zero_le _, rfl, HRA.out, HP2.out, HM2.out⟩
    case round =>
      obtain ⟨k, ok, hk, rfl, HX, hpr, hbr⟩ := hrel
      have HP := hide hpr; have HM := hide hbr
      have hltr := hpr.lt
      clear HP2 HM2 HF2 HRA hpr hbr
      obtain ⟨wo, rfl⟩ : ∃ x : World, x = wr := ⟨_, rfl⟩
      have hfo : Fut wg wo := ⟨hf.below.trans (HM.out.mono (by rw [HGS.out]; exact Nat.le_refl _))⟩
      obtain ⟨c0, c1, c2, c3, c4, c5⟩ := At.o6 (HAT.out.below hfo.below hbw)
      by_cases hlt2 : k < nl
      · have hkl : (k : Int) < (nl : Int) := by omega
        have hk0 : (0 : Int) ≤ (k : Int) := by omega
        obtain ⟨bL, oL, rfl, hbL, hcL⟩ := HA.out.elem hfo (k := k) (by rw [List.length_map, HL.out]; exact hlt2)
        obtain ⟨tk, htk⟩ : ∃ tk, l[k]? = some tk := ⟨_, List.getElem?_eq_getElem (by rw [HL.out]; exact hlt2)⟩
        have HT : Hid (l[k]? = some tk) := htk
        have hdj : (T.js l).drop k = tk.j :: (T.js l).drop (k + 1) := by
          obtain ⟨h1, h2⟩ := List.getElem?_eq_some_iff.1 htk
          rw [js_map, List.drop_eq_getElem_cons (by rw [List.length_map]; exact h1), List.getElem_map, h2]
        have HAL : Hid (At wg bL (oL + k * 6) tk.cells) := by
          obtain ⟨b', o', e', hb', hc'⟩ := HA.out (by rw [List.length_map, HL.out]; omega)
          injection e' with e'; injection e' with e1 e2; subst e1 e2
          exact hc' k _ (by rw [List.getElem?_map, htk]; rfl)
        have VC := HIH.out tk (List.mem_of_getElem? htk) g bL (oL + k * 6)
        have HRT := hide (HRD.out.get htk)
        obtain ⟨bK, oK, q, rfl, hbK, hq, hcell⟩ := str_at HAK.out (w := wg) inferInstance (k := k) (by rw [HKL.out, HNN.out]; exact hlt2)
        have HKC := hide hcell
        clear hcell
        have hcell := ((bcell hfo.below).1 bK (oK + k) hbK).trans HKC.out
        have hdk : ks.drop k = q :: ks.drop (k + 1) := by
          obtain ⟨h1, h2⟩ := List.getElem?_eq_some_iff.1 hq
          rw [List.drop_eq_getElem_cons h1, h2]
        have hqs : q.size ≤ maxLen := HSZ.out q (List.mem_of_getElem? hq)
        have hnn : nk = nl := HNN.out
        have hklK : (k : Int) < (nk : Int) := by omega
        have HX2 := HX.out
        rw [hdj, prL_cons] at HX2
        clear hcL hdj htk
        rw [hdk] at HX2
        clear hdk hq hnn
        by_cases hkz : k = 0
        · rw [decide_eq_true hkz] at HX2
          have hkp : ¬ (k : Int) > 0 := by omega
          clear hkz
          cases hr0 : textW q ok with
          | error ec =>
            have AY0 := hide (fun w' hp => calls_err (ptext_any g ok q w' hp hqs) hr0)
            obtain rfl : R = .error ec := by rw [← HX2]; simp [andE, hr0]
            clear hr0 HX2
            go_wp2_with (first | (go_at_call 45; (with_reducible refine (AY0.out _ HP.out).mono ?_); rintro e w4 ⟨rfl, hbx0⟩; have hbtw4 := hbx0))
            exact ⟨rfl, rfl, HM.out.trans hbtw4⟩
          | ok o0 =>
            have AY0 := hide (fun w' hp => calls_ok (ptext_any g ok q w' hp hqs) hr0)
            cases hr1 : addE o0 [58] with
            | error ec =>
              have AY1 := hide (fun w' hp => calls_err (padd_any g o0 ⟨#[58]⟩ w' hp (by decide)) hr1)
              obtain rfl : R = .error ec := by rw [← HX2]; simp [andE, hr1, hr0]
              clear hr0 hr1 HX2
              go_wp2_with (first | (go_at_call 42; (with_reducible refine (AY1.out _ HPX0.out).mono ?_); rintro e w5 ⟨rfl, hbx1⟩; have hbtw5 := hbtw4.trans hbx1) | (go_at_call 45; (with_reducible refine (AY0.out _ HP.out).mono ?_); rintro e w4 ⟨rfl, hpx0, hbx0⟩; have HPX0 := hide hpx0; have hbtw4 := hbx0; clear hpx0; clear c0 c1 c2 c3 c4 c5; obtain ⟨c0, c1, c2, c3, c4, c5⟩ := At.o6 (HAT.out.below (hf.below.trans ((HM.out.trans hbtw4).mono (by rw [HGS.out]; exact Nat.le_refl _))) hbw); clear hcell; have hcell := ((bcell (hf.below.trans ((HM.out.trans hbtw4).mono (by rw [HGS.out]; exact Nat.le_refl _)))).1 bK (oK + k) hbK).trans HKC.out))
              exact ⟨rfl, rfl, HM.out.trans hbtw5⟩
            | ok o1 =>
              have AY1 := hide (fun w' hp => calls_ok (padd_any g o0 ⟨#[58]⟩ w' hp (by decide)) hr1)
              cases hr2 : prV tk.j d o1 with
              | error ec =>
                have AY2 := hide (fun w' (hfx : Fut wg w') hp => calls_err (VC o1 wg w' HTB.out HGS.out HRT.out HAL.out (by rw [← HGS.out]; exact hbL) hfx hp) hr2)
                rw [← HD.out] at AY2
                obtain rfl : R = .error ec := by rw [← HX2]; simp [andE, hr2, hr0, hr1]
                clear hr0 hr1 hr2 HX2
                go_wp2_with (first | (go_at_call 28; (with_reducible refine (AY2.out _ (⟨hf.below.trans ((HM.out.trans hbtw5).mono (by rw [HGS.out]; exact Nat.le_refl _))⟩ : Fut wg _) HPX1.out).mono ?_); rintro e w6 ⟨rfl, hbx2⟩; have hbtw6 := hbtw5.trans hbx2) | (go_at_call 42; (with_reducible refine (AY1.out _ HPX0.out).mono ?_); rintro e w5 ⟨rfl, hpx1, hbx1⟩; have HPX1 := hide hpx1; have hbtw5 := hbtw4.trans hbx1; clear hpx1; clear c0 c1 c2 c3 c4 c5; obtain ⟨c0, c1, c2, c3, c4, c5⟩ := At.o6 (HAT.out.below (hf.below.trans ((HM.out.trans hbtw5).mono (by rw [HGS.out]; exact Nat.le_refl _))) hbw); clear hcell; have hcell := ((bcell (hf.below.trans ((HM.out.trans hbtw5).mono (by rw [HGS.out]; exact Nat.le_refl _)))).1 bK (oK + k) hbK).trans HKC.out) | (go_at_call 45; (with_reducible refine (AY0.out _ HP.out).mono ?_); rintro e w4 ⟨rfl, hpx0, hbx0⟩; have HPX0 := hide hpx0; have hbtw4 := hbx0; clear hpx0; clear c0 c1 c2 c3 c4 c5; obtain ⟨c0, c1, c2, c3, c4, c5⟩ := At.o6 (HAT.out.below (hf.below.trans ((HM.out.trans hbtw4).mono (by rw [HGS.out]; exact Nat.le_refl _))) hbw); clear hcell; have hcell := ((bcell (hf.below.trans ((HM.out.trans hbtw4).mono (by rw [HGS.out]; exact Nat.le_refl _)))).1 bK (oK + k) hbK).trans HKC.out))
                exact ⟨rfl, rfl, HM.out.trans hbtw6⟩
              | ok o2 =>
                have AY2 := hide (fun w' (hfx : Fut wg w') hp => calls_ok (VC o1 wg w' HTB.out HGS.out HRT.out HAL.out (by rw [← HGS.out]; exact hbL) hfx hp) hr2)
                rw [← HD.out] at AY2
                have HXN : Hid ((andE (prL ((T.js l).drop (k + 1)) d true (ks.drop (k + 1)) (decide (k + 1 = 0)) o2) fun o => addE o [125]) = R) := by show _ = _; rw [← HX2]; simp [andE, hr0, hr1, hr2]
                clear hr0 hr1 hr2 HX2
                go_wp2_with (first | (go_at_call 28; (with_reducible refine (AY2.out _ (⟨hf.below.trans ((HM.out.trans hbtw5).mono (by rw [HGS.out]; exact Nat.le_refl _))⟩ : Fut wg _) HPX1.out).mono ?_); rintro e w6 ⟨rfl, hpx2, hbx2⟩; have HPX2 := hide hpx2; have hbtw6 := hbtw5.trans hbx2; clear hpx2) | (go_at_call 42; (with_reducible refine (AY1.out _ HPX0.out).mono ?_); rintro e w5 ⟨rfl, hpx1, hbx1⟩; have HPX1 := hide hpx1; have hbtw5 := hbtw4.trans hbx1; clear hpx1; clear c0 c1 c2 c3 c4 c5; obtain ⟨c0, c1, c2, c3, c4, c5⟩ := At.o6 (HAT.out.below (hf.below.trans ((HM.out.trans hbtw5).mono (by rw [HGS.out]; exact Nat.le_refl _))) hbw); clear hcell; have hcell := ((bcell (hf.below.trans ((HM.out.trans hbtw5).mono (by rw [HGS.out]; exact Nat.le_refl _)))).1 bK (oK + k) hbK).trans HKC.out) | (go_at_call 45; (with_reducible refine (AY0.out _ HP.out).mono ?_); rintro e w4 ⟨rfl, hpx0, hbx0⟩; have HPX0 := hide hpx0; have hbtw4 := hbx0; clear hpx0; clear c0 c1 c2 c3 c4 c5; obtain ⟨c0, c1, c2, c3, c4, c5⟩ := At.o6 (HAT.out.below (hf.below.trans ((HM.out.trans hbtw4).mono (by rw [HGS.out]; exact Nat.le_refl _))) hbw); clear hcell; have hcell := ((bcell (hf.below.trans ((HM.out.trans hbtw4).mono (by rw [HGS.out]; exact Nat.le_refl _)))).1 bK (oK + k) hbK).trans HKC.out))
                go_roundw
                case rel => exact ⟨k + 1, o2, by omega, by go_num, HXN, HPX2.out, HM.out.trans hbtw6⟩
                case measure => simp [intOf]; omega
        · rw [decide_eq_false hkz] at HX2
          have hkp : (k : Int) > 0 := by omega
          clear hkz
          cases hr0 : addE ok [44] with
          | error ec =>
            have AY0 := hide (fun w' hp => calls_err (padd_any g ok ⟨#[44]⟩ w' hp (by decide)) hr0)
            obtain rfl : R = .error ec := by rw [← HX2]; simp [andE, hr0]
            clear hr0 HX2
            go_wp2_with (first | (go_at_call 42; (with_reducible refine (AY0.out _ HP.out).mono ?_); rintro e w4 ⟨rfl, hbx0⟩; have hbtw4 := hbx0))
            exact ⟨rfl, rfl, HM.out.trans hbtw4⟩
          | ok o0 =>
            have AY0 := hide (fun w' hp => calls_ok (padd_any g ok ⟨#[44]⟩ w' hp (by decide)) hr0)
            cases hr1 : textW q o0 with
            | error ec =>
              have AY1 := hide (fun w' hp => calls_err (ptext_any g o0 q w' hp hqs) hr1)
              obtain rfl : R = .error ec := by rw [← HX2]; simp [andE, hr1, hr0]
              clear hr0 hr1 HX2
              go_wp2_with (first | (go_at_call 45; (with_reducible refine (AY1.out _ HPX0.out).mono ?_); rintro e w5 ⟨rfl, hbx1⟩; have hbtw5 := hbtw4.trans hbx1) | (go_at_call 42; (with_reducible refine (AY0.out _ HP.out).mono ?_); rintro e w4 ⟨rfl, hpx0, hbx0⟩; have HPX0 := hide hpx0; have hbtw4 := hbx0; clear hpx0; clear c0 c1 c2 c3 c4 c5; obtain ⟨c0, c1, c2, c3, c4, c5⟩ := At.o6 (HAT.out.below (hf.below.trans ((HM.out.trans hbtw4).mono (by rw [HGS.out]; exact Nat.le_refl _))) hbw); clear hcell; have hcell := ((bcell (hf.below.trans ((HM.out.trans hbtw4).mono (by rw [HGS.out]; exact Nat.le_refl _)))).1 bK (oK + k) hbK).trans HKC.out))
              exact ⟨rfl, rfl, HM.out.trans hbtw5⟩
            | ok o1 =>
              have AY1 := hide (fun w' hp => calls_ok (ptext_any g o0 q w' hp hqs) hr1)
              cases hr2 : addE o1 [58] with
              | error ec =>
                have AY2 := hide (fun w' hp => calls_err (padd_any g o1 ⟨#[58]⟩ w' hp (by decide)) hr2)
                obtain rfl : R = .error ec := by rw [← HX2]; simp [andE, hr2, hr0, hr1]
                clear hr0 hr1 hr2 HX2
                go_wp2_with (first | (go_at_call 42; (with_reducible refine (AY2.out _ HPX1.out).mono ?_); rintro e w6 ⟨rfl, hbx2⟩; have hbtw6 := hbtw5.trans hbx2) | (go_at_call 45; (with_reducible refine (AY1.out _ HPX0.out).mono ?_); rintro e w5 ⟨rfl, hpx1, hbx1⟩; have HPX1 := hide hpx1; have hbtw5 := hbtw4.trans hbx1; clear hpx1; clear c0 c1 c2 c3 c4 c5; obtain ⟨c0, c1, c2, c3, c4, c5⟩ := At.o6 (HAT.out.below (hf.below.trans ((HM.out.trans hbtw5).mono (by rw [HGS.out]; exact Nat.le_refl _))) hbw); clear hcell; have hcell := ((bcell (hf.below.trans ((HM.out.trans hbtw5).mono (by rw [HGS.out]; exact Nat.le_refl _)))).1 bK (oK + k) hbK).trans HKC.out) | (go_at_call 42; (with_reducible refine (AY0.out _ HP.out).mono ?_); rintro e w4 ⟨rfl, hpx0, hbx0⟩; have HPX0 := hide hpx0; have hbtw4 := hbx0; clear hpx0; clear c0 c1 c2 c3 c4 c5; obtain ⟨c0, c1, c2, c3, c4, c5⟩ := At.o6 (HAT.out.below (hf.below.trans ((HM.out.trans hbtw4).mono (by rw [HGS.out]; exact Nat.le_refl _))) hbw); clear hcell; have hcell := ((bcell (hf.below.trans ((HM.out.trans hbtw4).mono (by rw [HGS.out]; exact Nat.le_refl _)))).1 bK (oK + k) hbK).trans HKC.out))
                exact ⟨rfl, rfl, HM.out.trans hbtw6⟩
              | ok o2 =>
                have AY2 := hide (fun w' hp => calls_ok (padd_any g o1 ⟨#[58]⟩ w' hp (by decide)) hr2)
                cases hr3 : prV tk.j d o2 with
                | error ec =>
                  have AY3 := hide (fun w' (hfx : Fut wg w') hp => calls_err (VC o2 wg w' HTB.out HGS.out HRT.out HAL.out (by rw [← HGS.out]; exact hbL) hfx hp) hr3)
                  rw [← HD.out] at AY3
                  obtain rfl : R = .error ec := by rw [← HX2]; simp [andE, hr3, hr0, hr1, hr2]
                  clear hr0 hr1 hr2 hr3 HX2
                  go_wp2_with (first | (go_at_call 28; (with_reducible refine (AY3.out _ (⟨hf.below.trans ((HM.out.trans hbtw6).mono (by rw [HGS.out]; exact Nat.le_refl _))⟩ : Fut wg _) HPX2.out).mono ?_); rintro e w7 ⟨rfl, hbx3⟩; have hbtw7 := hbtw6.trans hbx3) | (go_at_call 42; (with_reducible refine (AY2.out _ HPX1.out).mono ?_); rintro e w6 ⟨rfl, hpx2, hbx2⟩; have HPX2 := hide hpx2; have hbtw6 := hbtw5.trans hbx2; clear hpx2; clear c0 c1 c2 c3 c4 c5; obtain ⟨c0, c1, c2, c3, c4, c5⟩ := At.o6 (HAT.out.below (hf.below.trans ((HM.out.trans hbtw6).mono (by rw [HGS.out]; exact Nat.le_refl _))) hbw); clear hcell; have hcell := ((bcell (hf.below.trans ((HM.out.trans hbtw6).mono (by rw [HGS.out]; exact Nat.le_refl _)))).1 bK (oK + k) hbK).trans HKC.out) | (go_at_call 45; (with_reducible refine (AY1.out _ HPX0.out).mono ?_); rintro e w5 ⟨rfl, hpx1, hbx1⟩; have HPX1 := hide hpx1; have hbtw5 := hbtw4.trans hbx1; clear hpx1; clear c0 c1 c2 c3 c4 c5; obtain ⟨c0, c1, c2, c3, c4, c5⟩ := At.o6 (HAT.out.below (hf.below.trans ((HM.out.trans hbtw5).mono (by rw [HGS.out]; exact Nat.le_refl _))) hbw); clear hcell; have hcell := ((bcell (hf.below.trans ((HM.out.trans hbtw5).mono (by rw [HGS.out]; exact Nat.le_refl _)))).1 bK (oK + k) hbK).trans HKC.out) | (go_at_call 42; (with_reducible refine (AY0.out _ HP.out).mono ?_); rintro e w4 ⟨rfl, hpx0, hbx0⟩; have HPX0 := hide hpx0; have hbtw4 := hbx0; clear hpx0; clear c0 c1 c2 c3 c4 c5; obtain ⟨c0, c1, c2, c3, c4, c5⟩ := At.o6 (HAT.out.below (hf.below.trans ((HM.out.trans hbtw4).mono (by rw [HGS.out]; exact Nat.le_refl _))) hbw); clear hcell; have hcell := ((bcell (hf.below.trans ((HM.out.trans hbtw4).mono (by rw [HGS.out]; exact Nat.le_refl _)))).1 bK (oK + k) hbK).trans HKC.out))
                  exact ⟨rfl, rfl, HM.out.trans hbtw7⟩
                | ok o3 =>
                  have AY3 := hide (fun w' (hfx : Fut wg w') hp => calls_ok (VC o2 wg w' HTB.out HGS.out HRT.out HAL.out (by rw [← HGS.out]; exact hbL) hfx hp) hr3)
                  rw [← HD.out] at AY3
                  have HXN : Hid ((andE (prL ((T.js l).drop (k + 1)) d true (ks.drop (k + 1)) (decide (k + 1 = 0)) o3) fun o => addE o [125]) = R) := by show _ = _; rw [← HX2]; simp [andE, hr0, hr1, hr2, hr3]
                  clear hr0 hr1 hr2 hr3 HX2
                  go_wp2_with (first | (go_at_call 28; (with_reducible refine (AY3.out _ (⟨hf.below.trans ((HM.out.trans hbtw6).mono (by rw [HGS.out]; exact Nat.le_refl _))⟩ : Fut wg _) HPX2.out).mono ?_); rintro e w7 ⟨rfl, hpx3, hbx3⟩; have HPX3 := hide hpx3; have hbtw7 := hbtw6.trans hbx3; clear hpx3) | (go_at_call 42; (with_reducible refine (AY2.out _ HPX1.out).mono ?_); rintro e w6 ⟨rfl, hpx2, hbx2⟩; have HPX2 := hide hpx2; have hbtw6 := hbtw5.trans hbx2; clear hpx2; clear c0 c1 c2 c3 c4 c5; obtain ⟨c0, c1, c2, c3, c4, c5⟩ := At.o6 (HAT.out.below (hf.below.trans ((HM.out.trans hbtw6).mono (by rw [HGS.out]; exact Nat.le_refl _))) hbw); clear hcell; have hcell := ((bcell (hf.below.trans ((HM.out.trans hbtw6).mono (by rw [HGS.out]; exact Nat.le_refl _)))).1 bK (oK + k) hbK).trans HKC.out) | (go_at_call 45; (with_reducible refine (AY1.out _ HPX0.out).mono ?_); rintro e w5 ⟨rfl, hpx1, hbx1⟩; have HPX1 := hide hpx1; have hbtw5 := hbtw4.trans hbx1; clear hpx1; clear c0 c1 c2 c3 c4 c5; obtain ⟨c0, c1, c2, c3, c4, c5⟩ := At.o6 (HAT.out.below (hf.below.trans ((HM.out.trans hbtw5).mono (by rw [HGS.out]; exact Nat.le_refl _))) hbw); clear hcell; have hcell := ((bcell (hf.below.trans ((HM.out.trans hbtw5).mono (by rw [HGS.out]; exact Nat.le_refl _)))).1 bK (oK + k) hbK).trans HKC.out) | (go_at_call 42; (with_reducible refine (AY0.out _ HP.out).mono ?_); rintro e w4 ⟨rfl, hpx0, hbx0⟩; have HPX0 := hide hpx0; have hbtw4 := hbx0; clear hpx0; clear c0 c1 c2 c3 c4 c5; obtain ⟨c0, c1, c2, c3, c4, c5⟩ := At.o6 (HAT.out.below (hf.below.trans ((HM.out.trans hbtw4).mono (by rw [HGS.out]; exact Nat.le_refl _))) hbw); clear hcell; have hcell := ((bcell (hf.below.trans ((HM.out.trans hbtw4).mono (by rw [HGS.out]; exact Nat.le_refl _)))).1 bK (oK + k) hbK).trans HKC.out))
                  go_roundw
                  case rel => exact ⟨k + 1, o3, by omega, by go_num, HXN, HPX3.out, HM.out.trans hbtw7⟩
                  case measure => simp [intOf]; omega
      · obtain rfl : k = nl := by omega
        clear hlt2
        have HXE : Hid (addE ok [125] = R) := by show _ = _; rw [← HX.out, js_map, List.drop_eq_nil_of_le (by rw [List.length_map, HL.out]; exact Nat.le_refl _), prL]; rfl
        cases hr : addE ok [125] with
        | error ec =>
          have AY := hide (fun w' hp => calls_err (padd_any g ok ⟨#[125]⟩ w' hp (by decide)) hr)
          obtain rfl : R = .error ec := by rw [← HXE.out, hr]
          clear hr
          go_wp2_with (go_at_call 42; (with_reducible refine (AY.out _ HP.out).mono ?_); rintro e w4 ⟨rfl, hb4⟩)
          exact ⟨rfl, rfl, HM.out.trans hb4⟩
        | ok oz =>
          have AY := hide (fun w' hp => calls_ok (padd_any g ok ⟨#[125]⟩ w' hp (by decide)) hr)
          obtain rfl : R = .ok oz := by rw [← HXE.out, hr]
          clear hr
          go_wp2_with (go_at_call 42; (with_reducible refine (AY.out _ HP.out).mono ?_); rintro e w4 ⟨rfl, hp4, hb4⟩; have HP4 := hide hp4; clear hp4)
          go_end0
          exact ⟨⟨rfl, HP4.out⟩, HM.out.trans hb4⟩
end Go.Proofs.YtoibfefalflooaaDoor
