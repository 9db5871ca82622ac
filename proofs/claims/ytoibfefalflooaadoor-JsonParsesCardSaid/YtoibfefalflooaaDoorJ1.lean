/-
  The program's Get; Parse, joined.
-/
import Derived.Test.YtoibfefalflooaaDoorJy
import Derived.Test.YtoibfefalflooaaDoorJz
namespace Go.Proofs.YtoibfefalflooaaDoor
open Go.RowKit

theorem toList_inj {a b : ByteArray} (h : a.toList = b.toList) : a = b := by
  rw [ByteArray.toList_eq, ByteArray.toList_eq] at h
  exact ByteArray.ext (Array.toList_inj.1 h)
mutual
theorem clone_any : ∀ t : T, CLO t
  | .mk k b n s A c l AK cK ks => fun w hrd => by
    rw [RdT] at hrd
    obtain ⟨hA, hAK, ⟨h1, h2⟩, _, _, _, hrs⟩ := hrd
    exact clone_of k b n s A l.length c l AK ks.length cK ks rfl rfl (clones_any l) h1 h2 w hA hrs hAK _ rfl
theorem clones_any : ∀ l : List T, ∀ x ∈ l, CLO x
  | [], x, hx => by cases hx
  | t :: r, x, hx => by
    rcases List.mem_cons.1 hx with h | h
    · rw [h]; exact clone_any t
    · exact clones_any r x h
end
def getF : List ByteArray → List J → ByteArray → J × Bool
  | k :: ks, j :: l, key => if k = key then (j, true) else getF ks l key
  | _, _, _ => (J.zero, false)
/-- An object's value. -/
def getP (j : J) (key : ByteArray) : J × Bool := if j.k = 5 then getF j.ks j.l key else (J.zero, false)
theorem getF_none (ks : List ByteArray) (key : ByteArray) : getF ks [] key = (J.zero, false) := by cases ks <;> rfl
theorem getF_nil (l : List J) (key : ByteArray) : getF [] l key = (J.zero, false) := rfl
theorem getF_yes {k : ByteArray} {ks : List ByteArray} {j : J} {l : List J} {key : ByteArray} (h : k = key) : getF (k :: ks) (j :: l) key = (j, true) := by rw [getF, if_pos h]
theorem getF_no {k : ByteArray} {ks : List ByteArray} {j : J} {l : List J} {key : ByteArray} (h : k ≠ key) : getF (k :: ks) (j :: l) key = getF ks l key := by rw [getF, if_neg h]
def GetR (w : World) (p : J × Bool) (e : Ending) (w' : World) : Prop := ∃ t : T, e = .returned (.tuple #[.agg t.cells.toArray, .bool p.2]) ∧ t.j = p.1 ∧ TAt w' (fun q => w.heap.size ≤ q) t ∧ Step w w'

set_option maxRecDepth 100000 in
set_option maxHeartbeats 16000000 in
theorem get_of (K : Int) (b : Bool) (n : Int) (s : ByteArray) (A : Option Addr) (nl c : Nat) (l : List T) (AK : Option Addr) (nk cK : Nat) (ks : List ByteArray) (hl : l.length = nl) (hkl : ks.length = nk) (key : ByteArray)
    (w : World) (hA : SlAt w w.heap.size 6 A (l.map T.cells)) (hrd : RdTs w l) (hAK : SlAt w w.heap.size 1 AK (strCells ks)) (hnk : nk ≤ 8796093022208) (R : J × Bool) (hR : getP (J.mk K b n s (T.js l) ks) key = R) :
    Calls Tryd.prog 17 #[.agg #[.int .i64 K, .bool b, .int .i64 n, .string s, .slice A nl c, .slice AK nk cK], .string key] w (GetR w R) := by
  have HL := hide hl; have HKL := hide hkl; have HA := hide hA; have HRD := hide hrd; have HAK := hide hAK; have HR := hide hR
  obtain ⟨W, hW⟩ : ∃ W : World, W = (w.alloc (.cells #[.int .i64 K, .bool b, .int .i64 n, .string s, .slice A nl c, .slice AK nk cK] 25)).alloc (.cells #[.int .i64 0, .bool false, .int .i64 0, .string ⟨#[]⟩, .slice none 0 0, .slice none 0 0] 25) := ⟨_, rfl⟩
  have HB : Hid (Blk W w.heap.size 25 [.int .i64 K, .bool b, .int .i64 n, .string s, .slice A nl c, .slice AK nk cK]) := by rw [hW]; exact (Blk.new w _ 25).alloc _
  have HZ : Hid (Blk W (w.heap.size + 1) 25 zeroC) := by rw [hW]; exact Blk.new_at (by simp) zeroC 25
  have SW : Step w W := by rw [hW]; exact Step.of
  have hWs : W.heap.size = w.heap.size + 1 + 1 := by rw [hW]; simp
  obtain ⟨bb, hbb⟩ : ∃ n, w.heap.size = n := ⟨_, rfl⟩
  have HBE := hide hbb
  have hWs2 : bb + 2 ≤ W.heap.size := by omega
  rw [hbb] at HB HZ
  clear hl hkl hA hrd hAK hR hWs
  go_enter Tryd.func17, Tryd.ntmps17
  go_upto_region 1 with fail
  rw [← hW]
  obtain ⟨c0, c1, c2, c3, c4, c5⟩ := At.z6 HB.out.at0
  have lc := HB.out.lt
  obtain ⟨z0, z1, z2, z3, z4, z5⟩ := At.z6 HZ.out.at0
  have lz := HZ.out.lt
  have fz := HZ.out.free
  clear hW hbb
  by_cases hk : K = 5
  · subst hk
    have HRF : Hid (getF ks (T.js l) key = R) := by show _ = _; rw [← HR.out, getP, if_pos (show (J.mk 5 b n s (T.js l) ks).k = 5 from rfl)]; rfl
    go_wp2_with fail
    go_loop [15] (fun v15 => ∃ k : Nat, k ≤ nk ∧ v15 = .int .i64 k ∧ Hid (getF (ks.drop k) ((T.js l).drop k) key = R)) (fun v15 => nk - (intOf v15).toNat)
    case atStart => exact ⟨0, Nat.zero_le _, rfl, HRF.out⟩
    case round =>
      obtain ⟨k, hk, rfl, HX⟩ := hrel
      by_cases hlt : k < nk
      · have hkl : (k : Int) < (nk : Int) := by omega
        have hk0 : (0 : Int) ≤ (k : Int) := by omega
        obtain ⟨bK, oK, q, rfl, hbK, hq, hcell⟩ := str_at HAK.out (w := W) inferInstance (k := k) (by rw [HKL.out]; exact hlt)
        obtain ⟨hkk, hqe⟩ := List.getElem?_eq_some_iff.1 hq
        have hdk : ks.drop k = q :: ks.drop (k + 1) := by rw [List.drop_eq_getElem_cons hkk, hqe]
        rw [hdk] at HX
        clear hdk hq hqe hkk
        by_cases hqk : q = key
        · by_cases hll : k < nl
          · have hlli : (k : Int) < (nl : Int) := by omega
            subst hqk
            obtain ⟨bL, oL, rfl, hbL, hcL⟩ := HA.out.elem (w' := W) inferInstance (k := k) (by rw [List.length_map, HL.out]; exact hll)
            obtain ⟨tk, htk⟩ : ∃ tk, l[k]? = some tk := ⟨_, List.getElem?_eq_getElem (by rw [HL.out]; exact hll)⟩
            have hdj : (T.js l).drop k = tk.j :: (T.js l).drop (k + 1) := by
              obtain ⟨h1, h2⟩ := List.getElem?_eq_some_iff.1 htk
              rw [js_map, List.drop_eq_getElem_cons (by rw [List.length_map]; exact h1), List.getElem_map, h2]
            have HRT : Hid (R = (tk.j, true)) := by show _ = _; rw [← HX.out, hdj, getF_yes rfl]
            have hat := hcL k _ (by rw [List.getElem?_map, htk]; rfl)
            have CL := clone_any tk
            have hrt := HRD.out.get htk
            clear hcL htk hdj HX
            cases tk with
            | mk xk xb xn xs xA xc xl xAK xcK xks =>
            unfold CLO at CL
            simp only [T.cells] at CL hat
            obtain ⟨xnl, hxnl⟩ : ∃ n, xl.length = n := ⟨_, rfl⟩
            obtain ⟨xnk, hxnk⟩ : ∃ n, xks.length = n := ⟨_, rfl⟩
            rw [hxnl, hxnk] at CL hat
            have HIV : Hid (Calls Tryd.prog 31 #[.agg #[.int .i64 xk, .bool xb, .int .i64 xn, .string xs, .slice xA xnl xc, .slice xAK xnk xcK]] W fun e w'' => (∃ (vk : Int) (vb : Bool) (vn : Int) (vs : ByteArray) (vA : Option Addr) (vc vnl : Nat) (vl : List T) (vAK : Option Addr) (vcK vnk : Nat) (vks : List ByteArray), e = .returned (.agg #[.int .i64 vk, .bool vb, .int .i64 vn, .string vs, .slice vA vnl vc, .slice vAK vnk vcK]) ∧ Hid (vl.length = vnl ∧ vks.length = vnk) ∧ Hid (T.j (.mk vk vb vn vs vA vc vl vAK vcK vks) = T.j (.mk xk xb xn xs xA xc xl xAK xcK xks)) ∧ TAt w'' (fun q => W.heap.size ≤ q) (.mk vk vb vn vs vA vc vl vAK vcK vks)) ∧ Step W w'') := by
              refine (CL W (RdT.fut (w := w) hrt)).mono fun e w'' hh => ?_
              obtain ⟨t, h1, h2, h3, h4⟩ := hh
              cases t with
              | mk vk vb vn vs vA vc vl vAK vcK vks => exact ⟨⟨vk, vb, vn, vs, vA, vc, _, vl, vAK, vcK, _, vks, h1, ⟨rfl, rfl⟩, h2, h3⟩, h4⟩
            obtain ⟨x0, x1, x2, x3, x4, x5⟩ := At.o6 hat
            clear hat CL hrt hxnl hxnk
            go_wp2_with (go_at_call 31; (with_reducible refine HIV.out.mono ?_); rintro e w5 ⟨⟨vk, vb, vn, vs, vA, vc, vnl, vl, vAK, vcK, vnk, vks, rfl, HVL, HVJ, ht5⟩, hs5⟩; have HT5 := hide ht5; have HZ5 := hide (HZ.out.fut (w' := w5)); clear ht5 z0 z1 z2 z3 z4 z5 lz fz; obtain ⟨z0, z1, z2, z3, z4, z5⟩ := At.z6 HZ5.out.at0; have lz := HZ5.out.lt; have fz := HZ5.out.free)
            clear c0 c1 c2 c3 c4 c5 z0 z1 z2 z3 z4 z5
            have hF := set6_blk HZ5.out (.int .i64 vk) (.bool vb) (.int .i64 vn) (.string vs) (.slice vA vnl vc) (.slice vAK vnk vcK)
            obtain ⟨c0, c1, c2, c3, c4, c5⟩ := At.z6 hF.at0
            have b6 := set6_below (w := w5) (n := w.heap.size) (b := bb + 1) (by have := HBE.out; omega) (.int .i64 vk) (.bool vb) (.int .i64 vn) (.string vs) (.slice vA vnl vc) (.slice vAK vnk vcK)
            have g6 := TAt.grown (set6_grown w5 (bb + 1) (.int .i64 vk) (.bool vb) (.int .i64 vn) (.string vs) (.slice vA vnl vc) (.slice vAK vnk vcK)) (fun q hq e2 => by injection e2 with e2; omega) HT5.out
            unfold set6 at c0 c1 c2 c3 c4 c5 b6 g6
            obtain rfl : R = _ := HRT.out
            refine bodyPost_ret (v := .tuple #[.agg #[.int .i64 vk, .bool vb, .int .i64 vn, .string vs, .slice vA vnl vc, .slice vAK vnk vcK], .bool true]) (by simp [results, Tryd.results17, go_sem, c0, c1, c2, c3, c4, c5]) rfl ?_
            exact ⟨.mk vk vb vn vs vA vc vl vAK vcK vks, by rw [T.cells, HVL.out.1, HVL.out.2], HVJ.out, TAt.weak (fun q hq => by have := HBE.out; omega) g6, ⟨(SW.below.trans (hs5.below.mono SW.size)).trans b6⟩⟩
          · have hlli : ¬ (k : Int) < (nl : Int) := by omega
            have HXN : Hid (getF (ks.drop (k + 1)) ((T.js l).drop (k + 1)) key = R) := by
              show _ = _
              have hjl : (T.js l).length = nl := by rw [js_map, List.length_map, HL.out]
              have e1 : (T.js l).drop k = [] := List.drop_eq_nil_of_le (by omega)
              have e2 : (T.js l).drop (k + 1) = [] := List.drop_eq_nil_of_le (by omega)
              rw [← HX.out, e1, e2, getF_none, getF_none]
            clear HX
            subst hqk
            go_wp2_with fail
            go_round
            case rel => exact ⟨k + 1, by omega, by go_num, HXN⟩
            case measure => simp [intOf]; omega
        · have hqb : (q.toList = key.toList) = False := eq_false (fun e => hqk (toList_inj e))
          have HXN : Hid (getF (ks.drop (k + 1)) ((T.js l).drop (k + 1)) key = R) := by
            show _ = _
            rw [← HX.out]
            cases hj : (T.js l).drop k with
            | nil =>
              have e2 : (T.js l).drop (k + 1) = [] := by rw [← List.drop_drop, hj]; rfl
              rw [getF_none, e2, getF_none]
            | cons a r =>
              rw [getF_no hqk]
              congr 1
              rw [← List.drop_drop, hj]
              rfl
          clear HX
          go_wp2_with fail
          go_round
          case rel => exact ⟨k + 1, by omega, by go_num, HXN⟩
          case measure => simp [intOf]; omega
      · obtain rfl : k = nk := by omega
        have HRF : Hid (R = (J.zero, false)) := by show _ = _; rw [← HX.out, List.drop_eq_nil_of_le (by rw [HKL.out]; exact Nat.le_refl _), getF_nil]
        clear hlt
        go_wp2_with fail
        clear c0 c1 c2 c3 c4 c5 z0 z1 z2 z3 z4 z5
        have hF := set6_blk HZ.out (.int .i64 0) (.bool false) (.int .i64 0) (.string ⟨#[]⟩) (.slice none 0 0) (.slice none 0 0)
        obtain ⟨c0, c1, c2, c3, c4, c5⟩ := At.z6 hF.at0
        have b6 := set6_below (w := W) (n := w.heap.size) (b := bb + 1) (by have := HBE.out; omega) (.int .i64 0) (.bool false) (.int .i64 0) (.string ⟨#[]⟩) (.slice none 0 0) (.slice none 0 0)
        unfold set6 at c0 c1 c2 c3 c4 c5 b6
        obtain rfl : R = (J.zero, false) := HRF.out
        refine bodyPost_ret (v := .tuple #[.agg #[.int .i64 0, .bool false, .int .i64 0, .string ⟨#[]⟩, .slice none 0 0, .slice none 0 0], .bool false]) (by simp [results, Tryd.results17, go_sem, c0, c1, c2, c3, c4, c5]) rfl ?_
        exact ⟨T.zero, rfl, rfl, TAt.zero _ _, ⟨SW.below.trans b6⟩⟩
  · have hne : (K != 5) = true := bne_iff_ne.2 hk
    have HRF : Hid (R = (J.zero, false)) := by show _ = _; rw [← HR.out, getP, if_neg (show ¬ (J.mk K b n s (T.js l) ks).k = 5 from hk)]
    go_wp2_with fail
    clear c0 c1 c2 c3 c4 c5 z0 z1 z2 z3 z4 z5
    have hF := set6_blk HZ.out (.int .i64 0) (.bool false) (.int .i64 0) (.string ⟨#[]⟩) (.slice none 0 0) (.slice none 0 0)
    obtain ⟨c0, c1, c2, c3, c4, c5⟩ := At.z6 hF.at0
    have b6 := set6_below (w := W) (n := w.heap.size) (b := bb + 1) (by have := HBE.out; omega) (.int .i64 0) (.bool false) (.int .i64 0) (.string ⟨#[]⟩) (.slice none 0 0) (.slice none 0 0)
    unfold set6 at c0 c1 c2 c3 c4 c5 b6
    obtain rfl : R = (J.zero, false) := HRF.out
    refine bodyPost_ret (v := .tuple #[.agg #[.int .i64 0, .bool false, .int .i64 0, .string ⟨#[]⟩, .slice none 0 0, .slice none 0 0], .bool false]) (by simp [results, Tryd.results17, go_sem, c0, c1, c2, c3, c4, c5]) rfl ?_
    exact ⟨T.zero, rfl, rfl, TAt.zero _ _, ⟨SW.below.trans b6⟩⟩
end Go.Proofs.YtoibfefalflooaaDoor
