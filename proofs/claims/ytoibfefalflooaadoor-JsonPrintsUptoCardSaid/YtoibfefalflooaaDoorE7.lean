/-
  The document's Print.
-/
import Derived.Test.YtoibfefalflooaaDoorE6
namespace Go.Proofs.YtoibfefalflooaaDoor
open Go.RowKit

theorem rep_end_ok {o b : List UInt8} {code : Int} (h : Rep (.ok o) b code) : addB b code [] = o ∧ codeD b code = 0 := by
  obtain ⟨rfl, rfl, hl⟩ := h
  have hc : codeD b 0 = 0 := by rw [codeD, if_neg (by omega)]
  exact ⟨by rw [addB, if_pos hc, List.append_nil], hc⟩
theorem rep_end_err {c : Int} {b : List UInt8} {code : Int} (h : Rep (.error c) b code) : codeD b code = c ∧ c ≠ 0 := by
  obtain ⟨h0, h⟩ := h
  rcases h with rfl | ⟨rfl, rfl, hl⟩
  · exact ⟨by rw [codeD, if_neg (fun hh => h0 hh.1)], h0⟩
  · exact ⟨by rw [codeD, if_pos ⟨rfl, hl⟩], h0⟩
set_option maxRecDepth 100000 in
set_option maxHeartbeats 8000000 in
theorem rprint_ok (k : Int) (bb : Bool) (n : Int) (s : ByteArray) (A : Option Addr) (nl c : Nat) (l : List T) (AK : Option Addr) (nk cK : Nat) (ks : List ByteArray) (hl : l.length = nl) (hkl : ks.length = nk) (w : World) (hrd : RdT w (.mk k bb n s A c l AK cK ks)) (hsm : SmT (.mk k bb n s A c l AK cK ks)) (oo : List UInt8) (hv : prV (T.j (.mk k bb n s A c l AK cK ks)) 16 [] = .ok oo) :
    Calls Tryd.prog 16 #[.agg (T.mk k bb n s A c l AK cK ks).cells.toArray] w fun e w' => e = .returned (.tuple #[.string (ofL oo), .int .i64 0]) ∧ Step w w' := by
  have RV := rval_any (.mk k bb n s A c l AK cK ks) 16 (Nat.le_refl _)
  rw [T.cells, hl, hkl]
  obtain ⟨V, hV⟩ : ∃ V : World, V = w.alloc (.cells #[.int .i64 k, .bool bb, .int .i64 n, .string s, .slice A nl c, .slice AK nk cK] 25) := ⟨_, rfl⟩
  have HJ : Hid (Blk V w.heap.size 25 [.int .i64 k, .bool bb, .int .i64 n, .string s, .slice A nl c, .slice AK nk cK]) := by rw [hV]; exact Blk.new w _ 25
  have SV : Step w V := by rw [hV]; exact Step.of
  have hVs : V.heap.size = w.heap.size + 1 := by rw [hV]; simp
  obtain ⟨W, hW⟩ : ∃ W : World, W = V.alloc (.cells #[.slice none 0 0, .int .i64 0] 66) := ⟨_, rfl⟩
  have HD : Hid (DRep W (w.heap.size + 1) (.ok [])) := by rw [hW]; exact ⟨[], 0, ⟨none, 0, 0, Blk.new_at hVs [.slice none 0 0, .int .i64 0] 66, Own.nil_ _ _ _ _, rfl, by decide⟩, rfl, rfl, by decide⟩
  have FW : Fut V W := by rw [hW]; exact inferInstance
  have hWs : W.heap.size = w.heap.size + 1 + 1 := by rw [hW]; simp [hVs]
  have PV := RV (w.heap.size + 1) (.ok []) V W hVs hrd.fut hsm FW HD.out
  rw [T.cells, hl, hkl, show (andE (.ok []) fun o => prV (T.j (.mk k bb n s A c l AK cK ks)) 16 o) = prV (T.j (.mk k bb n s A c l AK cK ks)) 16 [] from rfl, hv] at PV
  have PV : Hid (Calls Tryd.prog 29 #[.pointer (some ⟨w.heap.size + 1, 0, none⟩), .agg #[.int .i64 k, .bool bb, .int .i64 n, .string s, .slice A nl c, .slice AK nk cK], .int .i64 0] W fun e w'' => e = .returned (.tuple #[]) ∧ DRep w'' (w.heap.size + 1) (.ok oo) ∧ Kp (w.heap.size + 1) W w'') := PV
  have AD := hide (fun (b : List UInt8) (cd : Int) (w' : World) (hp : DocP w' (w.heap.size + 1) b cd) => radd_any (w.heap.size + 1) b cd ⟨#[]⟩ w' hp (by decide))
  clear hrd hsm hv hl hkl RV
  go_enter Tryd.func16, Tryd.ntmps16
  go_upto_region 2 with fail
  rw [← hV, ← hW]
  clear hV hW
  obtain ⟨c0, c1, c2, c3, c4, c5⟩ := At.z6 (HJ.out.fut (w' := W)).at0
  have lc := (HJ.out.fut (w' := W)).lt
  go_upto_region 3 with (go_at_call 29; (with_reducible refine PV.out.mono ?_); rintro e w2 ⟨rfl, hp2, hk2⟩; have HP2 := hide hp2; have HK2 := hide hk2; clear hp2 hk2 c0 c1 c2 c3 c4 c5 lc)
  obtain ⟨b2, cd2, hp2, hr2⟩ := HP2.out
  have hre := rep_end_ok hr2
  have HR := hide hre
  have AD2 := AD.out b2 cd2 w2 hp2
  clear hre hr2 hp2 AD PV HP2
  obtain ⟨b3, hb3⟩ : ∃ b3, addB b2 cd2 [] = b3 := ⟨_, rfl⟩
  obtain ⟨cd3, hcd3⟩ : ∃ c3, codeD b2 cd2 = c3 := ⟨_, rfl⟩
  rw [hb3, hcd3] at AD2
  have HR3 := HR.out
  rw [hb3, hcd3] at HR3
  obtain ⟨rfl, rfl⟩ := HR3
  have AD2 := hide AD2
  clear HR hb3 hcd3
  go_upto_region 4 with (go_at_call 30; (with_reducible refine AD2.out.mono ?_); rintro e w3 ⟨rfl, hp3, hk3⟩; have HP3 := hide hp3; have HK3 := hide hk3; clear hp3 hk3)
  obtain ⟨A3, n3, c3, hb3, ho3, hn3, hm3⟩ := HP3.out
  have hs3 : Step w w3 := ⟨(SV.below.trans (FW.below.mono (by have := SV.size; omega))).trans ((HK2.out.trans HK3.out).below.mono (by omega))⟩
  obtain ⟨q0, q1⟩ := At.z2 hb3.at0
  have lq := hb3.lt
  have hcv := bytes_convE (c := c3) (ho3.sl (byte_fit _).len) hn3
  have HB3 := hide hb3; have HO3 := hide ho3; have HN3 := hide hn3
  obtain ⟨t2, ht2⟩ : ∃ t, ofL b3 = t := ⟨_, rfl⟩
  rw [ht2] at hcv
  have HT2 := hide ht2
  clear hb3 ho3 hn3 ht2
  go_wp2_with fail
  go_ret2
  exact ⟨by rw [HT2.out]; rfl, hs3⟩
set_option maxRecDepth 100000 in
set_option maxHeartbeats 8000000 in
theorem rprint_err (k : Int) (bb : Bool) (n : Int) (s : ByteArray) (A : Option Addr) (nl c : Nat) (l : List T) (AK : Option Addr) (nk cK : Nat) (ks : List ByteArray) (hl : l.length = nl) (hkl : ks.length = nk) (w : World) (hrd : RdT w (.mk k bb n s A c l AK cK ks)) (hsm : SmT (.mk k bb n s A c l AK cK ks)) (ec : Int) (hv : prV (T.j (.mk k bb n s A c l AK cK ks)) 16 [] = .error ec) :
    Calls Tryd.prog 16 #[.agg (T.mk k bb n s A c l AK cK ks).cells.toArray] w fun e w' => e = .returned (.tuple #[.string ⟨#[]⟩, .int .i64 ec]) ∧ Step w w' := by
  have RV := rval_any (.mk k bb n s A c l AK cK ks) 16 (Nat.le_refl _)
  rw [T.cells, hl, hkl]
  obtain ⟨V, hV⟩ : ∃ V : World, V = w.alloc (.cells #[.int .i64 k, .bool bb, .int .i64 n, .string s, .slice A nl c, .slice AK nk cK] 25) := ⟨_, rfl⟩
  have HJ : Hid (Blk V w.heap.size 25 [.int .i64 k, .bool bb, .int .i64 n, .string s, .slice A nl c, .slice AK nk cK]) := by rw [hV]; exact Blk.new w _ 25
  have SV : Step w V := by rw [hV]; exact Step.of
  have hVs : V.heap.size = w.heap.size + 1 := by rw [hV]; simp
  obtain ⟨W, hW⟩ : ∃ W : World, W = V.alloc (.cells #[.slice none 0 0, .int .i64 0] 66) := ⟨_, rfl⟩
  have HD : Hid (DRep W (w.heap.size + 1) (.ok [])) := by rw [hW]; exact ⟨[], 0, ⟨none, 0, 0, Blk.new_at hVs [.slice none 0 0, .int .i64 0] 66, Own.nil_ _ _ _ _, rfl, by decide⟩, rfl, rfl, by decide⟩
  have FW : Fut V W := by rw [hW]; exact inferInstance
  have hWs : W.heap.size = w.heap.size + 1 + 1 := by rw [hW]; simp [hVs]
  have PV := RV (w.heap.size + 1) (.ok []) V W hVs hrd.fut hsm FW HD.out
  rw [T.cells, hl, hkl, show (andE (.ok []) fun o => prV (T.j (.mk k bb n s A c l AK cK ks)) 16 o) = prV (T.j (.mk k bb n s A c l AK cK ks)) 16 [] from rfl, hv] at PV
  have PV : Hid (Calls Tryd.prog 29 #[.pointer (some ⟨w.heap.size + 1, 0, none⟩), .agg #[.int .i64 k, .bool bb, .int .i64 n, .string s, .slice A nl c, .slice AK nk cK], .int .i64 0] W fun e w'' => e = .returned (.tuple #[]) ∧ DRep w'' (w.heap.size + 1) (.error ec) ∧ Kp (w.heap.size + 1) W w'') := PV
  have AD := hide (fun (b : List UInt8) (cd : Int) (w' : World) (hp : DocP w' (w.heap.size + 1) b cd) => radd_any (w.heap.size + 1) b cd ⟨#[]⟩ w' hp (by decide))
  clear hrd hsm hv hl hkl RV
  go_enter Tryd.func16, Tryd.ntmps16
  go_upto_region 2 with fail
  rw [← hV, ← hW]
  clear hV hW
  obtain ⟨c0, c1, c2, c3, c4, c5⟩ := At.z6 (HJ.out.fut (w' := W)).at0
  have lc := (HJ.out.fut (w' := W)).lt
  go_upto_region 3 with (go_at_call 29; (with_reducible refine PV.out.mono ?_); rintro e w2 ⟨rfl, hp2, hk2⟩; have HP2 := hide hp2; have HK2 := hide hk2; clear hp2 hk2 c0 c1 c2 c3 c4 c5 lc)
  obtain ⟨b2, cd2, hp2, hr2⟩ := HP2.out
  have hre := rep_end_err hr2
  have HR := hide hre
  have AD2 := AD.out b2 cd2 w2 hp2
  clear hre hr2 hp2 AD PV HP2
  obtain ⟨b3, hb3⟩ : ∃ b3, addB b2 cd2 [] = b3 := ⟨_, rfl⟩
  obtain ⟨cd3, hcd3⟩ : ∃ c3, codeD b2 cd2 = c3 := ⟨_, rfl⟩
  rw [hb3, hcd3] at AD2
  have HR3 := HR.out
  rw [hcd3] at HR3
  obtain ⟨rfl, hne⟩ := HR3
  have AD2 := hide AD2
  clear HR hb3 hcd3
  go_upto_region 4 with (go_at_call 30; (with_reducible refine AD2.out.mono ?_); rintro e w3 ⟨rfl, hp3, hk3⟩; have HP3 := hide hp3; have HK3 := hide hk3; clear hp3 hk3)
  obtain ⟨A3, n3, c3, hb3, ho3, hn3, hm3⟩ := HP3.out
  have hs3 : Step w w3 := ⟨(SV.below.trans (FW.below.mono (by have := SV.size; omega))).trans ((HK2.out.trans HK3.out).below.mono (by omega))⟩
  obtain ⟨q0, q1⟩ := At.z2 hb3.at0
  have lq := hb3.lt
  have hbne : (cd3 != 0) = true := bne_iff_ne.2 hne
  clear hb3 ho3 hn3 hne
  go_upto_region 5 with fail
  go_quiet (fail)
  go_wp2_with fail
  go_ret2
  exact ⟨rfl, Step.of⟩
/-- What the document's Print answers, if no text is too long. -/
theorem rprint_any (t : T) (w : World) (hrd : RdT w t) (hsm : SmT t) : Calls Tryd.prog 16 #[.agg t.cells.toArray] w fun e w' => e = .returned (.tuple #[.string (printP t.j).1, .int .i64 (printP t.j).2]) ∧ Step w w' := by
  cases t with
  | mk k bb n s A c l AK cK ks =>
    cases hv : prV (T.j (.mk k bb n s A c l AK cK ks)) 16 [] with
    | error ec => rw [printP, hv]; exact rprint_err k bb n s A _ c l AK _ cK ks rfl rfl w hrd hsm ec hv
    | ok oo => rw [printP, hv]; exact rprint_ok k bb n s A _ c l AK _ cK ks rfl rfl w hrd hsm oo hv
end Go.Proofs.YtoibfefalflooaaDoor
