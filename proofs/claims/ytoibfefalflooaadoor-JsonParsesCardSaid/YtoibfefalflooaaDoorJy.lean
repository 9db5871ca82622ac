/-
  The program's Print.
-/
import Derived.Test.YtoibfefalflooaaDoorJx
import Derived.Test.YtoibfefalflooaaDoorJq
namespace Go.Proofs.YtoibfefalflooaaDoor
open Go.RowKit

/-- What Print answers. -/
def PrintR (w : World) (p : ByteArray × Int) (e : Ending) (w' : World) : Prop := e = .returned (.tuple #[.string p.1, .int .i64 p.2]) ∧ Step w w'
mutual
theorem prV_err : ∀ (j : J) (d : Nat) (out : List UInt8) (c : Int), prV j d out = .error c → c = 300 ∨ c = 301 ∨ c = 302
  | .mk k b n s l ks, d, out, c, h => by
    have tw : ∀ (t : ByteArray) (o : List UInt8) (c : Int), textW t o = .error c → c = 300 ∨ c = 301 ∨ c = 302 := fun t o c h => by
      unfold textW at h
      split at h
      · exact .inr (.inr (addE_err h))
      · injection h with h; exact .inl h.symm
    have ae : ∀ (o t : List UInt8) (c : Int), addE o t = .error c → c = 300 ∨ c = 301 ∨ c = 302 := fun o t c h => .inr (.inr (addE_err h))
    have an : ∀ (r : Except Int (List UInt8)) (f : List UInt8 → Except Int (List UInt8)) (c : Int), andE r f = .error c → r = .error c ∨ ∃ o, r = .ok o ∧ f o = .error c := fun r f c h => by
      cases r with
      | error e => exact .inl h
      | ok o => exact .inr ⟨o, rfl, h⟩
    rw [prV] at h
    split at h
    · exact ae _ _ _ h
    · split at h
      · exact ae _ _ _ h
      · split at h
        · exact ae _ _ _ h
        · split at h
          · exact tw _ _ _ h
          · split at h
            · split at h
              · injection h with h; exact .inr (.inl h.symm)
              · rcases an _ _ _ h with h | ⟨o, _, h⟩
                · exact ae _ _ _ h
                · rcases an _ _ _ h with h | ⟨o, _, h⟩
                  · exact prL_err l _ _ _ _ _ _ h
                  · exact ae _ _ _ h
            · split at h
              · split at h
                · injection h with h; exact .inr (.inl h.symm)
                · split at h
                  · rcases an _ _ _ h with h | ⟨o, _, h⟩
                    · exact ae _ _ _ h
                    · rcases an _ _ _ h with h | ⟨o, _, h⟩
                      · exact prL_err l _ _ _ _ _ _ h
                      · exact ae _ _ _ h
                  · injection h with h; exact .inl h.symm
              · injection h with h; exact .inl h.symm
theorem prL_err : ∀ (l : List J) (d : Nat) (obj : Bool) (ks : List ByteArray) (fst : Bool) (out : List UInt8) (c : Int), prL l d obj ks fst out = .error c → c = 300 ∨ c = 301 ∨ c = 302
  | [], d, obj, ks, fst, out, c, h => by rw [prL] at h; cases h
  | j :: r, d, obj, ks, fst, out, c, h => by
    have tw : ∀ (t : ByteArray) (o : List UInt8) (c : Int), textW t o = .error c → c = 300 ∨ c = 301 ∨ c = 302 := fun t o c h => by
      unfold textW at h
      split at h
      · exact .inr (.inr (addE_err h))
      · injection h with h; exact .inl h.symm
    have ae : ∀ (o t : List UInt8) (c : Int), addE o t = .error c → c = 300 ∨ c = 301 ∨ c = 302 := fun o t c h => .inr (.inr (addE_err h))
    have an : ∀ (r : Except Int (List UInt8)) (f : List UInt8 → Except Int (List UInt8)) (c : Int), andE r f = .error c → r = .error c ∨ ∃ o, r = .ok o ∧ f o = .error c := fun r f c h => by
      cases r with
      | error e => exact .inl h
      | ok o => exact .inr ⟨o, rfl, h⟩
    rw [prL_cons] at h
    rcases an _ _ _ h with h | ⟨o, _, h⟩
    · split at h
      · cases h
      · exact ae _ _ _ h
    · rcases an _ _ _ h with h | ⟨o, _, h⟩
      · split at h
        · rcases an _ _ _ h with h | ⟨o, _, h⟩
          · exact tw _ _ _ h
          · exact ae _ _ _ h
        · cases h
      · rcases an _ _ _ h with h | ⟨o, _, h⟩
        · exact prV_err j _ _ _ h
        · exact prL_err r _ _ _ _ _ _ h
end

set_option maxRecDepth 100000 in
theorem clrp_any (pe po : Nat) (te to_ : TypeId) (x : Int) (x0 : Value) (u : FrameMode) (w : World) (he : Blk w pe te [.int .i64 x]) (ho : Blk w po to_ [x0]) :
    CallsD Tryd.prog 27 #[.pointer (some ⟨pe, 0, none⟩), .pointer (some ⟨po, 0, none⟩)] u w fun e u' w' => e = .returned (.tuple #[]) ∧ u' = u ∧ w' = if x = 0 then w else w.setCell ⟨po, 0, none⟩ (.string ⟨#[]⟩) := by
  have q0 := At.z1 he.at0
  have lq := he.lt
  have c0 := At.z1 ho.at0
  have lc := ho.lt
  have fc := ho.free
  clear he ho
  refine (callsD_of_wp (R := fun e w' => e = .returned (.tuple #[]) ∧ w' = if x = 0 then w else w.setCell ⟨po, 0, none⟩ (.string ⟨#[]⟩)) Tryd.func27 rfl ?_).mono (fun e u' w' h => ⟨h.2.1, h.1, h.2.2⟩)
  change Code.wp Tryd.prog _ _ { tmps := #[.pointer (some ⟨pe, 0, none⟩), .pointer (some ⟨po, 0, none⟩), undef, undef], defers := [] } w
  by_cases hx : x = 0
  · subst hx
    go_wp2_with fail
    go_end0
    exact ⟨rfl, rfl⟩
  · have hxb : (x != 0) = true := bne_iff_ne.2 hx
    go_wp2_with fail
    go_end0
    exact ⟨rfl, rfl⟩

set_option maxRecDepth 100000 in
set_option maxHeartbeats 4000000 in
theorem print_err (k : Int) (bb : Bool) (n : Int) (s : ByteArray) (A : Option Addr) (nl c : Nat) (l : List T) (AK : Option Addr) (nk cK : Nat) (ks : List ByteArray) (hl : l.length = nl) (hkl : ks.length = nk) (w : World) (htb : Tab w) (hrd : RdT w (.mk k bb n s A c l AK cK ks)) (ec : Int) (hv : prV (T.j (.mk k bb n s A c l AK cK ks)) 16 [] = .error ec) :
    Calls Tryd.prog 15 #[.agg #[.int .i64 k, .bool bb, .int .i64 n, .string s, .slice A nl c, .slice AK nk cK]] w (PrintR w (⟨#[]⟩, ec)) := by
  have hec : ec ≠ 0 := by have := prV_err _ _ _ _ hv; omega
  have hmf : ∀ (fn : Fn) (first cap : Array Value) (w : World), (Instr.makeFunc fn first cap).run Tryd.prog w = .ok (.func fn first cap) w := fun _ _ _ _ => rfl
  obtain ⟨V, hV⟩ : ∃ x : World, x = ((w.alloc (.cells #[.int .i64 k, .bool bb, .int .i64 n, .string s, .slice A nl c, .slice AK nk cK] 25)).alloc (.cells #[.string ⟨#[]⟩] 9)).alloc (.cells #[.int .i64 0] 26) := ⟨_, rfl⟩
  have hVs : V.heap.size = w.heap.size + 1 + 1 + 1 := by rw [hV]; simp
  have SV : Step w V := by rw [hV]; exact Step.of
  have HJ : Hid (Blk V w.heap.size 25 [.int .i64 k, .bool bb, .int .i64 n, .string s, .slice A nl c, .slice AK nk cK]) := by rw [hV]; exact ((Blk.new w _ 25).alloc _).alloc _
  have HO : Hid (Blk V (w.heap.size + 1) 9 [.string ⟨#[]⟩]) := by rw [hV]; exact (Blk.new_at (by simp) [.string ⟨#[]⟩] 9).alloc _
  have HE : Hid (Blk V (w.heap.size + 1 + 1) 26 [.int .i64 0]) := by rw [hV]; exact Blk.new_at (by simp) [.int .i64 0] 26
  have PV := pval_any (.mk k bb n s A c l AK cK ks) 16 (Nat.le_refl _) (w.heap.size + 1 + 1 + 1) w.heap.size 0 [] V (V.alloc (.cells #[.slice none 0 0] 61)) htb.fut hVs hrd.fut (by rw [T.cells, hl, hkl]; exact HJ.out.at0) (by omega) inferInstance ⟨none, 0, 0, Blk.new_at hVs [.slice none 0 0] 61, Own.nil_ _ _ _ _, rfl, by decide⟩
  rw [hv] at PV
  have hWs : (V.alloc (.cells #[.slice none 0 0] 61)).heap.size = w.heap.size + 1 + 1 + 1 + 1 := by simp [hVs]
  obtain ⟨W, hW⟩ : ∃ W : World, W = V.alloc (.cells #[.slice none 0 0] 61) := ⟨_, rfl⟩
  rw [← hW] at PV hWs
  have FW : Fut V W := by rw [hW]; exact inferInstance
  have AY : Hid (Calls Tryd.prog 28 #[.pointer (some ⟨w.heap.size + 1 + 1 + 1, 0, none⟩), .pointer (some ⟨w.heap.size, 0, none⟩), .int .i64 0] W fun e w' => e = .panicked [{ v := fault ec, recovered := false }] ∧ Below (w.heap.size + 1 + 1 + 1) W w') := calls_err PV rfl
  clear PV hrd htb hv hl hkl
  go_enter_defers Tryd.func15, Tryd.ntmps15
  go_upto_region 4 with fail
  rw [← hV, ← hW]
  clear hV hW
  go_wp2_with (go_at_call 28; (with_reducible refine AY.out.mono ?_); rintro e w2 ⟨rfl, hb2⟩; have HB2 := hide hb2; clear hb2)
  have HM : Hid (Below (w.heap.size + 1 + 1 + 1) V w2) := (FW.below.mono (by omega)).trans HB2.out
  have E2 := HE.out.below HM.out (by omega)
  have O2 := HO.out.below HM.out (by omega)
  refine leaves_cons (f := 20) (args := #[.pointer (some ⟨w.heap.size + 1 + 1, 0, none⟩)]) (by simp) (by simp [go_sem]) ?_
  refine (catch_panicking (w.heap.size + 1 + 1) 26 0 ec [] _ E2).mono ?_
  rintro e u' w'' ⟨rfl, rfl, rfl⟩
  have E3 := (E2.set_ 0 (.int .i64 ec)).alloc (.cells #[.int .i64 ec] 72)
  have O3 := (O2.far (p := ⟨w.heap.size + 1 + 1, 0, none⟩) (by simp) (.int .i64 ec)).alloc (.cells #[.int .i64 ec] 72)
  refine leaves_cons (f := 27) (args := #[.pointer (some ⟨w.heap.size + 1 + 1, 0, none⟩), .pointer (some ⟨w.heap.size + 1, 0, none⟩)]) (by simp [settle]) (by simp [go_sem]) ?_
  refine (clrp_any (w.heap.size + 1 + 1) (w.heap.size + 1) 26 9 ec _ _ _ E3 O3).mono ?_
  rintro e u' w'' ⟨rfl, rfl, rfl⟩
  rw [if_neg hec]
  have E4 := E3.far (p := ⟨w.heap.size + 1, 0, none⟩) (by simp) (.string ⟨#[]⟩)
  have O4 := O3.set_ 0 (.string ⟨#[]⟩)
  have b3 := ((SV.below.trans (HM.out.mono (by omega))).setCell (p := ⟨w.heap.size + 1 + 1, 0, none⟩) (by simp; omega) (.int .i64 ec))
  have b4 := (b3.alloc b3.size (.cells #[.int .i64 ec] 72)).setCell (p := ⟨w.heap.size + 1, 0, none⟩) (by simp) (.string ⟨#[]⟩)
  obtain ⟨F, hF⟩ : ∃ F : World, F = ((w2.setCell ⟨w.heap.size + 1 + 1, 0, none⟩ (.int .i64 ec)).alloc (.cells #[.int .i64 ec] 72)).setCell ⟨w.heap.size + 1, 0, none⟩ (.string ⟨#[]⟩) := ⟨_, rfl⟩
  rw [← hF] at E4 O4 b4
  rw [← hF]
  have e0 := At.z1 E4.at0
  have o0 := At.z1 O4.at0
  simp [Leaves, settle, results, Tryd.results15, go_sem, e0, o0]
  exact ⟨rfl, ⟨b4⟩⟩

set_option maxRecDepth 100000 in
set_option maxHeartbeats 4000000 in
theorem print_ok (k : Int) (bb : Bool) (n : Int) (s : ByteArray) (A : Option Addr) (nl c : Nat) (l : List T) (AK : Option Addr) (nk cK : Nat) (ks : List ByteArray) (hl : l.length = nl) (hkl : ks.length = nk) (w : World) (htb : Tab w) (hrd : RdT w (.mk k bb n s A c l AK cK ks)) (oo : List UInt8) (hv : prV (T.j (.mk k bb n s A c l AK cK ks)) 16 [] = .ok oo) :
    Calls Tryd.prog 15 #[.agg #[.int .i64 k, .bool bb, .int .i64 n, .string s, .slice A nl c, .slice AK nk cK]] w (PrintR w (ofL oo, 0)) := by
  have hmf : ∀ (fn : Fn) (first cap : Array Value) (w : World), (Instr.makeFunc fn first cap).run Tryd.prog w = .ok (.func fn first cap) w := fun _ _ _ _ => rfl
  obtain ⟨V, hV⟩ : ∃ x : World, x = ((w.alloc (.cells #[.int .i64 k, .bool bb, .int .i64 n, .string s, .slice A nl c, .slice AK nk cK] 25)).alloc (.cells #[.string ⟨#[]⟩] 9)).alloc (.cells #[.int .i64 0] 26) := ⟨_, rfl⟩
  have hVs : V.heap.size = w.heap.size + 1 + 1 + 1 := by rw [hV]; simp
  have SV : Step w V := by rw [hV]; exact Step.of
  have HJ : Hid (Blk V w.heap.size 25 [.int .i64 k, .bool bb, .int .i64 n, .string s, .slice A nl c, .slice AK nk cK]) := by rw [hV]; exact ((Blk.new w _ 25).alloc _).alloc _
  have HO : Hid (Blk V (w.heap.size + 1) 9 [.string ⟨#[]⟩]) := by rw [hV]; exact (Blk.new_at (by simp) [.string ⟨#[]⟩] 9).alloc _
  have HE : Hid (Blk V (w.heap.size + 1 + 1) 26 [.int .i64 0]) := by rw [hV]; exact Blk.new_at (by simp) [.int .i64 0] 26
  have PV := pval_any (.mk k bb n s A c l AK cK ks) 16 (Nat.le_refl _) (w.heap.size + 1 + 1 + 1) w.heap.size 0 [] V (V.alloc (.cells #[.slice none 0 0] 61)) htb.fut hVs hrd.fut (by rw [T.cells, hl, hkl]; exact HJ.out.at0) (by omega) inferInstance ⟨none, 0, 0, Blk.new_at hVs [.slice none 0 0] 61, Own.nil_ _ _ _ _, rfl, by decide⟩
  rw [hv] at PV
  have hWs : (V.alloc (.cells #[.slice none 0 0] 61)).heap.size = w.heap.size + 1 + 1 + 1 + 1 := by simp [hVs]
  obtain ⟨W, hW⟩ : ∃ W : World, W = V.alloc (.cells #[.slice none 0 0] 61) := ⟨_, rfl⟩
  rw [← hW] at PV hWs
  have FW : Fut V W := by rw [hW]; exact inferInstance
  have AY : Hid (Calls Tryd.prog 28 #[.pointer (some ⟨w.heap.size + 1 + 1 + 1, 0, none⟩), .pointer (some ⟨w.heap.size, 0, none⟩), .int .i64 0] W fun e w' => e = .returned (.tuple #[]) ∧ (∃ (A : Option Addr) (n c : Nat), Blk w' (w.heap.size + 1 + 1 + 1) 61 [.slice A n c] ∧ SlAt w' w'.heap.size 1 A (byteCells oo) ∧ oo.length = n) ∧ Below (w.heap.size + 1 + 1 + 1) W w') := by
    refine (calls_ok PV rfl).mono fun e w' hh => ⟨hh.1, ?_, hh.2.2⟩
    obtain ⟨A, n, c, h1, h2, h3, _⟩ := hh.2.1
    exact ⟨A, n, c, h1, h2.sl (byte_fit _).len, h3⟩
  clear PV hrd htb hv hl hkl
  go_enter_defers Tryd.func15, Tryd.ntmps15
  go_upto_region 4 with fail
  rw [← hV, ← hW]
  clear hV hW
  go_upto_region 5 with (go_at_call 28; (with_reducible refine AY.out.mono ?_); rintro e w2 ⟨rfl, ⟨A2, n2, c2, hb2, hsl2, hn2⟩, hbl2⟩; have HB2 := hide hb2; have HS2 := hide hsl2; have HN2 := hide hn2; have HL2 := hide hbl2; clear hb2 hsl2 hn2 hbl2)
  have HM : Hid (Below (w.heap.size + 1 + 1 + 1) V w2) := (FW.below.mono (by omega)).trans HL2.out
  have E2 := HE.out.below HM.out (by omega)
  have O2 := HO.out.below HM.out (by omega)
  have hcv := bytes_convE (c := c2) HS2.out HN2.out
  obtain ⟨t2, ht2⟩ : ∃ t, ofL oo = t := ⟨_, rfl⟩
  rw [ht2] at hcv
  have HT : Hid (t2 = ofL oo) := ht2.symm
  have q0 := At.z1 HB2.out.at0
  have o0 := At.z1 O2.at0
  have lo := O2.lt
  have fo := O2.free
  have e0 := At.z1 E2.at0
  have le := E2.lt
  have fe := E2.free
  have HE2 := hide E2
  have HO2 := hide O2
  clear E2 O2 ht2
  go_wp2_with fail
  clear q0 o0 lo fo e0 le fe hcv
  have E4 := (HE2.out.far (p := ⟨w.heap.size + 1, 0, none⟩) (by simp) (.string t2)).set_ 0 (.int .i64 0)
  have O4 := (HO2.out.set_ 0 (.string t2)).far (p := ⟨w.heap.size + 1 + 1, 0, none⟩) (by simp) (.int .i64 0)
  have b4 := ((SV.below.trans (HM.out.mono (by omega))).setCell (p := ⟨w.heap.size + 1, 0, none⟩) (by simp) (.string t2)).setCell (p := ⟨w.heap.size + 1 + 1, 0, none⟩) (by simp; omega) (.int .i64 0)
  obtain ⟨F, hF⟩ : ∃ F : World, F = (w2.setCell ⟨w.heap.size + 1, 0, none⟩ (.string t2)).setCell ⟨w.heap.size + 1 + 1, 0, none⟩ (.int .i64 0) := ⟨_, rfl⟩
  rw [← hF] at E4 O4 b4
  rw [← hF]
  refine leaves_cons (f := 20) (args := #[.pointer (some ⟨w.heap.size + 1 + 1, 0, none⟩)]) (by simp) (by simp [go_sem]) ?_
  refine (catch_idle _ _).mono ?_
  rintro e u' w'' ⟨rfl, rfl, rfl⟩
  refine leaves_cons (f := 27) (args := #[.pointer (some ⟨w.heap.size + 1 + 1, 0, none⟩), .pointer (some ⟨w.heap.size + 1, 0, none⟩)]) (by simp [settle]) (by simp [go_sem]) ?_
  refine (clrp_any (w.heap.size + 1 + 1) (w.heap.size + 1) 26 9 0 _ _ _ E4 O4).mono ?_
  rintro e u' w'' ⟨rfl, rfl, rfl⟩
  have e0 := At.z1 E4.at0
  have o0 := At.z1 O4.at0
  simp [Leaves, settle, results, Tryd.results15, go_sem, e0, o0]
  exact ⟨by rw [HT.out], ⟨b4⟩⟩
/-- What the program's Print answers, whatever the value. -/
theorem jprint_any (t : T) (w : World) (htb : Tab w) (hrd : RdT w t) : Calls Tryd.prog 15 #[.agg t.cells.toArray] w (PrintR w (printP t.j)) := by
  cases t with
  | mk k bb n s A c l AK cK ks =>
    cases hv : prV (T.j (.mk k bb n s A c l AK cK ks)) 16 [] with
    | error ec => rw [printP, hv]; exact print_err k bb n s A _ c l AK _ cK ks rfl rfl w htb hrd ec hv
    | ok oo => rw [printP, hv]; exact print_ok k bb n s A _ c l AK _ cK ks rfl rfl w htb hrd oo hv
end Go.Proofs.YtoibfefalflooaaDoor
