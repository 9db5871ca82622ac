/-
  The document's parser: an object.
-/
import Derived.Test.YtoibfefalflooaaDoorF7
import Derived.Test.YtoibfefalflooaaDoorJv
namespace Go.Proofs.YtoibfefalflooaaDoor
open Go.RowKit

theorem DTs.addK2 {g : Nat} {s : ByteArray} {bb : Nat} {K : Int} {w w1 w2 : World} {k : Nat} {cd : Int} {l : List T} {ks : List ByteArray} {A : Option Addr} {c nl : Nat} {AK : Option Addr} {cK nk : Nat} {t : T} (h : DCo g s bb K w w1 k cd l ks A c nl AK cK nk) (ht : TAt w1 (okD bb A AK) t) {A2 : Option Addr} {c2 : Nat}
    (hg : w1.grownBy w2 (Value.slice AK nk cK).ownBlock) (hA : ob A2 = (Value.slice AK nk cK).ownBlock ∨ ob A2 = some w1.heap.size) :
    TAt (w2.setCell ⟨bb + 1, 5, none⟩ (.slice A2 (nk + 1) c2)) (okD bb A A2) t := by
  have hset := grown_setCell w2 (bb + 1) 5 (.slice A2 (nk + 1) c2)
  have hok : ∀ q, okD bb A AK q ∧ q < w1.heap.size → okD bb A A2 q := fun q hq => ⟨hq.1.1, hq.1.2.1, fun e => by
    rcases hA with e1 | e1
    · rw [e1, ob_eq] at e; exact hq.1.2.2 e
    · rw [e1] at e; injection e with e; omega⟩
  have hrow : ∀ q, okD bb A AK q ∧ q < w1.heap.size → (Value.slice AK nk cK).ownBlock ≠ some q := fun q hq e => hq.1.2.2 (by rw [← ob_eq AK nk cK]; exact e)
  have hrow2 : ∀ q, okD bb A A2 q → some (bb + 1) ≠ some q := fun q hq e => by have := hq.1; have := h.hg; injection e with e; omega
  exact TAt.grown hset hrow2 (TAt.weak hok (TAt.grown hg hrow (TAt.lt ht)))
/-- What an object's rest says, from a key on. -/
def objP (val : Nat → Except Int (J × Nat)) (s : ByteArray) (f k : Nat) (l : List J) (ks : List ByteArray) : Except Int (List J × List ByteArray × Nat) :=
  match textP s (whiteE s k) with
  | none => .error 300
  | some (q, i1) =>
    if ks.contains q then .error 300
    else if bA s (whiteE s i1) ≠ 58 then .error 300
    else (match val (whiteE s (whiteE s i1 + 1)) with
          | .error e => .error e
          | .ok (j, i4) => elemsP val s true f (whiteE s i4) false (l ++ [j]) (ks ++ [q]))
theorem objP_none {val : Nat → Except Int (J × Nat)} {s : ByteArray} {f k : Nat} {l : List J} {ks : List ByteArray} (h : textP s (whiteE s k) = none) : objP val s f k l ks = .error 300 := by rw [objP, h]
theorem objP_twice {val : Nat → Except Int (J × Nat)} {s : ByteArray} {f k : Nat} {l : List J} {ks : List ByteArray} {q : ByteArray} {i1 : Nat} (h : textP s (whiteE s k) = some (q, i1)) (h2 : ks.contains q = true) : objP val s f k l ks = .error 300 := by rw [objP, h]; exact if_pos h2
theorem objP_colon {val : Nat → Except Int (J × Nat)} {s : ByteArray} {f k : Nat} {l : List J} {ks : List ByteArray} {q : ByteArray} {i1 : Nat} (h : textP s (whiteE s k) = some (q, i1)) (h2 : ks.contains q = false) (h3 : bA s (whiteE s i1) ≠ 58) : objP val s f k l ks = .error 300 := by
  rw [objP, h]
  show (if ks.contains q = true then _ else _) = _
  rw [if_neg (by rw [h2]; simp), if_pos h3]
theorem objP_val {val : Nat → Except Int (J × Nat)} {s : ByteArray} {f k : Nat} {l : List J} {ks : List ByteArray} {q : ByteArray} {i1 : Nat} (h : textP s (whiteE s k) = some (q, i1)) (h2 : ks.contains q = false) (h3 : bA s (whiteE s i1) = 58) :
    objP val s f k l ks = (match val (whiteE s (whiteE s i1 + 1)) with | .error e => .error e | .ok (j, i4) => elemsP val s true f (whiteE s i4) false (l ++ [j]) (ks ++ [q])) := by
  rw [objP, h]
  show (if ks.contains q = true then _ else _) = _
  rw [if_neg (by rw [h2]; simp), if_neg (by rw [h3]; simp)]
theorem el_objP {val : Nat → Except Int (J × Nat)} {s : ByteArray} {f i : Nat} {l : List J} {ks : List ByteArray} (h : bA s i ≠ 125) (h2 : bA s i = 44) : elemsP val s true (f + 1) i false l ks = objP val s f (i + 1) l ks := by
  rw [el_obj h (by simp [h2])]
  rfl
theorem el_objF {val : Nat → Except Int (J × Nat)} {s : ByteArray} {f i : Nat} (h : bA s i ≠ 125) (hw : whiteE s i = i) : elemsP val s true (f + 1) i true [] [] = objP val s f i [] [] := by
  rw [el_obj h (by simp), objP, hw]
  rfl
theorem text_no {s : ByteArray} {k : Nat} (h : bA s k ≠ 34) : textP s k = none := by rw [textP, if_neg h]

set_option maxRecDepth 100000 in
set_option maxHeartbeats 16000000 in
theorem dobj_deep (g : Nat) (s : ByteArray) (i : Nat) (dp : Int) (hdp : dp > 16) (w : World) (h : Dp w g s i 0) (hi : i ≤ s.size) :
    Calls Tryd.prog 40 #[.pointer (some ⟨g, 0, none⟩), .int .i64 dp] w fun e w' => ValD w.heap.size g s (.error 301) e w' ∧ Mv g w w' := by
  have HC0 := hide (DCo.new w h 5)
  clear h
  obtain ⟨r, hr⟩ : ∃ r : Except Int (J × Nat), r = .error 301 := ⟨_, rfl⟩
  rw [← hr]
  have HR := hide hr
  clear hr
  go_enter Tryd.func40, Tryd.ntmps40
  go_upto_region 2 with fail
  obtain ⟨W0, hW0⟩ : ∃ x : World, x = ((w.alloc (.cells #[.int .i64 0, .bool false, .int .i64 0, .string ⟨#[]⟩, .slice none 0 0, .slice none 0 0] 25)).alloc (.cells #[.int .i64 5, .bool false, .int .i64 0, .string ⟨#[]⟩, .slice none 0 0, .slice none 0 0] 25)) := ⟨_, rfl⟩
  rw [← hW0] at HC0
  rw [← hW0]
  clear hW0
  obtain ⟨bb, hbb⟩ : ∃ n, w.heap.size = n := ⟨_, rfl⟩
  rw [hbb] at HC0
  rw [hbb]
  have HBE := hide hbb
  clear hbb
  have FL := hide (fun w' (hp : Dp w' g s i 0) => dfail_any g s i 301 w' hp)
  go_upto_region 4 with ((go_at_call 26; go_loud (with_reducible refine (FL.out _ HC0.out.pr).mono ?_); rintro e w1 ⟨rfl, hp_, hm_⟩; have HC1 := hide (HC0.out.mv hm_ hp_); clear hp_ hm_))
  obtain ⟨z0, z1, z2, z3, z4, z5⟩ := At.z6 HC1.out.zer.at0
  have lz := HC1.out.zer.lt
  have fz := HC1.out.zer.free
  obtain ⟨c0, c1, c2, c3, c4, c5⟩ := At.z6 HC1.out.blk.at0; have lc := HC1.out.blk.lt; have fc := HC1.out.blk.free
  go_wp2_with fail
  clear z0 z1 z2 z3 z4 z5 c0 c1 c2 c3 c4 c5
  have hF := set6_blk HC1.out.zer (.int .i64 5) (.bool false) (.int .i64 0) (.string ⟨#[]⟩) (.slice none 0 0) (.slice none 0 0)
  obtain ⟨c0, c1, c2, c3, c4, c5⟩ := At.z6 hF.at0
  have hD := dn_bad HC1.out rfl rfl hi (by decide)
  obtain ⟨Y, hY⟩ : ∃ Y : World, Y = set6 w1 bb (.int .i64 5) (.bool false) (.int .i64 0) (.string ⟨#[]⟩) (.slice none 0 0) (.slice none 0 0) := ⟨_, rfl⟩
  rw [← hY] at hD c0 c1 c2 c3 c4 c5
  unfold set6 at hY
  rw [← hY]
  clear hY hF
  refine bodyPost_ret (v := .agg #[.int .i64 5, .bool false, .int .i64 0, .string ⟨#[]⟩, .slice none 0 0, .slice none 0 0]) (by simp [results, Tryd.results40, go_sem, c0, c1, c2, c3, c4, c5]) rfl ?_
  exact ⟨by rw [HR.out, HBE.out]; exact hD.1, hD.2⟩
set_option maxRecDepth 100000 in
set_option maxHeartbeats 16000000 in
theorem dobj_ok (g : Nat) (s : ByteArray) (i : Nat) (dp : Int) (hdp : ¬ dp > 16) (val : Nat → Except Int (J × Nat)) (hv : ∀ i j k, val i = .ok (j, k) → i < k) (HV : VALD g s dp val) (hve : ∀ i c, val i = .error c → 0 < c)
    (w : World) (h : Dp w g s i 0) (hi : i < s.size) (hs : s.size ≤ 65536) :
    Calls Tryd.prog 40 #[.pointer (some ⟨g, 0, none⟩), .int .i64 dp] w fun e w' => ValD w.heap.size g s (innP val s true i) e w' ∧ Mv g w w' := by
  have HC0 := hide (DCo.new w h 5)
  have hlb := h.lt
  have HVV := hide HV
  have HVG := hide hv
  have HVE := hide hve
  have WH := hide (fun (k : Nat) (cd : Int) (hk : k ≤ s.size) w' (hp : Dp w' g s k cd) => dwhite_any g s k cd w' hp hk hs)
  have WB := hide (fun (k : Nat) (hk : k ≤ s.size) w' (hp : Dp w' g s k 0) => dword_any g s ⟨#[125]⟩ k 0 (decide (bA s k = 125)) w' hp hk (word_one 125 (by decide)) hs (by decide))
  have WC := hide (fun (k : Nat) (hk : k ≤ s.size) w' (hp : Dp w' g s k 0) => dword_any g s ⟨#[44]⟩ k 0 (decide (bA s k = 44)) w' hp hk (word_one 44 (by decide)) hs (by decide))
  have WK := hide (fun (k : Nat) (hk : k ≤ s.size) w' (hp : Dp w' g s k 0) => dword_any g s ⟨#[58]⟩ k 0 (decide (bA s k = 58)) w' hp hk (word_one 58 (by decide)) hs (by decide))
  have TXA := hide (fun (k : Nat) (hq : bA s k = 34) w' (hp : Dp w' g s k 0) => dtext_any g s k w' hp hq hs)
  have FL := hide (fun (k : Nat) w' (hp : Dp w' g s k 0) => dfail_any g s k 300 w' hp)
  obtain ⟨r, hr⟩ : ∃ r, innP val s true i = r := ⟨_, rfl⟩
  obtain ⟨R, hR⟩ : ∃ R, elemsP val s true (s.size + 1) (whiteE s (i + 1)) true [] [] = R := ⟨_, rfl⟩
  have HRR : Hid (r = outJ 5 R) := by show _ = _; rw [← hr, inn_out, hR]; rfl
  have HT := hide hR
  rw [hr]
  clear h hr hR HV hv hve
  obtain ⟨hw0, hw1⟩ := white_bd (s := s) (i := i + 1) (by omega)
  have hwi := white_idem s (i + 1)
  obtain ⟨k1, hk1⟩ : ∃ k1, whiteE s (i + 1) = k1 := ⟨_, rfl⟩
  have HK1 := hide hk1
  rw [hk1] at HT hw0 hw1 hwi
  have HWI := hide hwi
  clear hk1 hwi
  go_enter Tryd.func40, Tryd.ntmps40
  go_upto_region 2 with fail
  obtain ⟨W0, hW0⟩ : ∃ x : World, x = ((w.alloc (.cells #[.int .i64 0, .bool false, .int .i64 0, .string ⟨#[]⟩, .slice none 0 0, .slice none 0 0] 25)).alloc (.cells #[.int .i64 5, .bool false, .int .i64 0, .string ⟨#[]⟩, .slice none 0 0, .slice none 0 0] 25)) := ⟨_, rfl⟩
  rw [← hW0] at HC0
  rw [← hW0]
  clear hW0
  obtain ⟨bb, hbb⟩ : ∃ n, w.heap.size = n := ⟨_, rfl⟩
  rw [hbb] at HC0 hlb
  rw [hbb]
  have HBE := hide hbb
  clear hbb
  obtain ⟨q0, q1, q2⟩ := At.z3 HC0.out.pr.at0; have lq := HC0.out.pr.lt; have fq := HC0.out.pr.free
  have hi1 : i + 1 ≤ s.size := by omega
  go_upto_region 6 with fail
  have HPP : Hid (Dp (W0.setCell ⟨g, 1, none⟩ (.int .i64 ((i : Int) + 1))) g s (i + 1) 0) := Dp.put HC0.out.pr (by omega)
  have HCP := hide (HC0.out.mv (grown_setCell W0 g 1 (.int .i64 ((i : Int) + 1))) HPP.out)
  obtain ⟨X, hX⟩ : ∃ x : World, x = W0.setCell ⟨g, 1, none⟩ (.int .i64 ((i : Int) + 1)) := ⟨_, rfl⟩
  rw [← hX] at HCP
  rw [← hX]
  clear hX q0 q1 q2 lq fq HPP
  by_cases h93 : bA s k1 = 125
  · have HR : Hid (r = .ok (.mk 5 false 0 ⟨#[]⟩ [] [], k1 + 1)) := by show _ = _; rw [HRR.out, ← HT.out, el_end (by rw [h93]; rfl)]; rfl
    have hk1s : k1 < s.size := bA_lt (by omega)
    have XWB1 := WB.out k1 hw1
    rw [decide_eq_true h93] at XWB1
    have WB1 : Hid (∀ w', Dp w' g s k1 0 → Calls Tryd.prog 37 #[.pointer (some ⟨g, 0, none⟩), .string ⟨#[125]⟩] w' fun e w'' => e = .returned (.bool true) ∧ Dp w'' g s (k1 + 1) 0 ∧ Mv g w' w'') := XWB1
    clear XWB1
    clear WB h93
    go_upto_region 8 with (first | (go_at_call 24; go_loud (with_reducible refine (WH.out (i + 1) 0 hi1 _ HCP.out.pr).mono ?_); rintro e w1 ⟨rfl, hp0, hm_⟩; have hp_ := hp0; rw [HK1.out] at hp_; have HC1 := hide (HCP.out.mv hm_ hp_); clear hp_ hp0 hm_) | (go_at_call 37; go_loud (with_reducible refine (WB1.out _ HC1.out.pr).mono ?_); rintro e w2 ⟨rfl, hp_, hm_⟩; have HC2 := hide (HC1.out.mv hm_ hp_); clear hp_ hm_))
    obtain ⟨z0, z1, z2, z3, z4, z5⟩ := At.z6 HC2.out.zer.at0
    have lz := HC2.out.zer.lt
    have fz := HC2.out.zer.free
    obtain ⟨c0, c1, c2, c3, c4, c5⟩ := At.z6 HC2.out.blk.at0; have lc := HC2.out.blk.lt; have fc := HC2.out.blk.free
    go_wp2_with fail
    clear z0 z1 z2 z3 z4 z5 c0 c1 c2 c3 c4 c5
    have hF := set6_blk HC2.out.zer (.int .i64 5) (.bool false) (.int .i64 0) (.string ⟨#[]⟩) (.slice none 0 0) (.slice none 0 0)
    obtain ⟨c0, c1, c2, c3, c4, c5⟩ := At.z6 hF.at0
    have hD := dn_ok HC2.out (by rw [TAts]; trivial) rfl rfl (by omega)
    obtain ⟨Y, hY⟩ : ∃ Y : World, Y = set6 w2 bb (.int .i64 5) (.bool false) (.int .i64 0) (.string ⟨#[]⟩) (.slice none 0 0) (.slice none 0 0) := ⟨_, rfl⟩
    rw [← hY] at hD c0 c1 c2 c3 c4 c5
    unfold set6 at hY
    rw [← hY]
    clear hY hF
    refine bodyPost_ret (v := .agg #[.int .i64 5, .bool false, .int .i64 0, .string ⟨#[]⟩, .slice none 0 0, .slice none 0 0]) (by simp [results, Tryd.results40, go_sem, c0, c1, c2, c3, c4, c5]) rfl ?_
    exact ⟨by rw [HR.out, HBE.out]; exact hD.1, hD.2⟩
  · skip
    have XWB1 := WB.out k1 hw1
    rw [decide_eq_false h93] at XWB1
    have WB1 : Hid (∀ w', Dp w' g s k1 0 → Calls Tryd.prog 37 #[.pointer (some ⟨g, 0, none⟩), .string ⟨#[125]⟩] w' fun e w'' => e = .returned (.bool false) ∧ Dp w'' g s (k1) 0 ∧ Mv g w' w'') := XWB1
    clear XWB1
    have HTS : Hid (objP val s s.size k1 (T.js []) [] = R) := by show _ = _; rw [← HT.out, el_objF h93 HWI.out]; rfl
    clear h93 HT
    go_wp2_with (first | (go_at_call 24; go_loud (with_reducible refine (WH.out (i + 1) 0 hi1 _ HCP.out.pr).mono ?_); rintro e w1 ⟨rfl, hp0, hm_⟩; have hp_ := hp0; rw [HK1.out] at hp_; have HC1 := hide (HCP.out.mv hm_ hp_); clear hp_ hp0 hm_) | (go_at_call 37; go_loud (with_reducible refine (WB1.out _ HC1.out.pr).mono ?_); rintro e w2 ⟨rfl, hp_, hm_⟩; have HC2 := hide (HC1.out.mv hm_ hp_); clear hp_ hm_))
    go_loopw [] (fun wr => (∃ (f k : Nat) (l : List T) (A : Option Addr) (c nl : Nat) (ks : List ByteArray) (AK : Option Addr) (cK nk : Nat), i + 1 ≤ k ∧ k ≤ s.size ∧ s.size ≤ f + k ∧ Hid (l.length = nl ∧ ks.length = nk) ∧ nl ≤ k ∧ nk ≤ k ∧ Hid (objP val s f k (T.js l) ks = R) ∧ DCo g s bb 5 w wr k 0 l ks A c nl AK cK nk ∧ TAts wr (okD bb A AK) l) ∨ (∃ (k : Nat) (cd : Int) (l : List T) (A : Option Addr) (c nl : Nat) (ks : List ByteArray) (AK : Option Addr) (cK nk : Nat), k ≤ s.size ∧ 0 < cd ∧ Hid (R = .error cd) ∧ Hid (l.length = nl ∧ ks.length = nk) ∧ DCo g s bb 5 w wr k cd l ks A c nl AK cK nk)) (fun wr => msrD s g wr)
    case atStart => exact .inl ⟨s.size, k1, [], none, 0, 0, [], none, 0, 0, hw0, hw1, by omega, ⟨rfl, rfl⟩, by omega, by omega, HTS.out, HC2.out, by rw [TAts]; trivial⟩
    case round =>
      clear HC0 HC1 HC2 HCP
      obtain ⟨wo, rfl⟩ : ∃ x : World, x = wr := ⟨_, rfl⟩
      rcases hrel with ⟨f, k, l, A, c, nl, ks, AK, cK, nk, hik, hk, hf, HL, hnl, hnk, HTX, hco, hts⟩ | ⟨k, cd, l, A, c, nl, ks, AK, cK, nk, hk, hcd, HN, HL, hco⟩
      · have HC := hide hco; have HTS := hide hts
        obtain ⟨q0, q1, q2⟩ := At.z3 HC.out.pr.at0; have lq := HC.out.pr.lt; have fq := HC.out.pr.free
        clear hco hts
        obtain ⟨hwk0, hwk1⟩ := white_bd hk
        obtain ⟨k0, hk0e⟩ : ∃ k0, whiteE s k = k0 := ⟨_, rfl⟩
        rw [hk0e] at hwk0 hwk1
        have HK0 := hide hk0e
        clear hk0e
        go_upto_region 11 with ((go_at_call 24; go_loud (with_reducible refine (WH.out k 0 hk _ HC.out.pr).mono ?_); rintro e w3 ⟨rfl, hp0, hm_⟩; have hp_ := hp0; rw [HK0.out] at hp_; have HC3 := hide (HC.out.mv hm_ hp_); have HT3 := hide (DTs.mv HC.out HTS.out hm_); clear q0 q1 q2 lq fq; clear hp_ hp0 hm_))
        obtain ⟨q0, q1, q2⟩ := At.z3 HC3.out.pr.at0; have lq := HC3.out.pr.lt; have fq := HC3.out.pr.free
        by_cases h34 : bA s k0 = 34
        · have hk0s : k0 < s.size := bA_lt (by omega)
          have hkl : (k0 : Int) < (s.size : Int) := by omega
          have hkp : (0 : Int) ≤ (k0 : Int) := by omega
          have hkd : decide ((k0 : Int) ≥ (s.size : Int)) = false := decide_eq_false (by omega)
          have hkd2 : decide ((s.size : Int) ≤ (k0 : Int)) = false := decide_eq_false (by omega)
          have hkd3 : decide (s.size ≤ k0) = false := decide_eq_false (by omega)
          have hA34 := bA_at hk0s
          have e34 : (s[k0].toNat : Int) = 34 := by omega
          have e34b : ((s[k0].toNat : Int) != 34) = false := by rw [e34]; rfl
          have TX := TXA.out k0 h34
          clear hA34 h34
          go_wp2_with fail
          go_quiet (fail)
          obtain ⟨w4, hw4⟩ : ∃ x, x = w3.drewN nq := ⟨_, rfl⟩
          have hs4 : Step w3 w4 := by rw [hw4]; exact Step.of
          rw [← hw4]
          have HC4 := hide (HC3.out.step (w2 := w4))
          have HT4 := hide (DTs.step (w2 := w4) HC3.out HT3.out)
          clear hw4 q0 q1 q2 lq fq
          obtain ⟨q0, q1, q2⟩ := At.z3 HC4.out.pr.at0
          have lq := HC4.out.pr.lt
          have fq := HC4.out.pr.free
          clear hkd hkd2 hkd3
          cases ht : textP s k0 with
          | none =>
            have HRN : Hid (R = .error 300) := by show _ = _; rw [← HTX.out]; exact objP_none (by rw [HK0.out]; exact ht)
            have HR : Hid (r = .error 300) := by show _ = _; rw [HRR.out, HRN.out]; rfl
            rw [ht] at TX
            have TXX : Hid (∀ w', Dp w' g s k0 0 → Calls Tryd.prog 38 #[.pointer (some ⟨g, 0, none⟩)] w' fun e w'' => (∃ j, e = .returned (.string ⟨#[]⟩) ∧ Dp w'' g s j 300 ∧ j ≤ s.size) ∧ Mv g w' w'') := TX
            clear TX ht
            go_upto_region 16 with ((go_at_call 38; go_loud (with_reducible refine (TXX.out _ HC4.out.pr).mono ?_); rintro e w5 ⟨⟨jE, rfl, hp_, hjE⟩, hm_⟩; have HC5 := hide (HC4.out.mv hm_ hp_); clear q0 q1 q2 lq fq; obtain ⟨q0, q1, q2⟩ := At.z3 HC5.out.pr.at0; have lq := HC5.out.pr.lt; have fq := HC5.out.pr.free; clear hp_ hm_))
            obtain ⟨z0, z1, z2, z3, z4, z5⟩ := At.z6 HC5.out.zer.at0
            have lz := HC5.out.zer.lt
            have fz := HC5.out.zer.free
            obtain ⟨c0, c1, c2, c3, c4, c5⟩ := At.z6 HC5.out.blk.at0; have lc := HC5.out.blk.lt; have fc := HC5.out.blk.free
            go_wp2_with fail
            clear z0 z1 z2 z3 z4 z5 c0 c1 c2 c3 c4 c5
            have hF := set6_blk HC5.out.zer (.int .i64 5) (.bool false) (.int .i64 0) (.string ⟨#[]⟩) (.slice A nl c) (.slice AK nk cK)
            obtain ⟨c0, c1, c2, c3, c4, c5⟩ := At.z6 hF.at0
            have hD := dn_bad HC5.out HL.out.1 HL.out.2 hjE (by decide)
            obtain ⟨Y, hY⟩ : ∃ Y : World, Y = set6 w5 bb (.int .i64 5) (.bool false) (.int .i64 0) (.string ⟨#[]⟩) (.slice A nl c) (.slice AK nk cK) := ⟨_, rfl⟩
            rw [← hY] at hD c0 c1 c2 c3 c4 c5
            unfold set6 at hY
            rw [← hY]
            clear hY hF
            refine bodyPost_ret (v := .agg #[.int .i64 5, .bool false, .int .i64 0, .string ⟨#[]⟩, .slice A nl c, .slice AK nk cK]) (by simp [results, Tryd.results40, go_sem, c0, c1, c2, c3, c4, c5]) rfl ?_
            exact ⟨by rw [HR.out, HBE.out]; exact hD.1, hD.2⟩
          | some p =>
            obtain ⟨q, i1⟩ := p
            have HTE : Hid (textP s (whiteE s k) = some (q, i1)) := by show _ = _; rw [HK0.out]; exact ht
            have hi1g := text_gt ht
            rw [ht] at TX
            have TXX : Hid (∀ w', Dp w' g s k0 0 → Calls Tryd.prog 38 #[.pointer (some ⟨g, 0, none⟩)] w' fun e w'' => (e = .returned (.string q) ∧ Dp w'' g s i1 0 ∧ i1 ≤ s.size) ∧ Mv g w' w'') := TX
            clear TX ht
            go_upto_region 17 with ((go_at_call 38; go_loud (with_reducible refine (TXX.out _ HC4.out.pr).mono ?_); rintro e w5 ⟨⟨rfl, hp_, hi5⟩, hm_⟩; have HC5 := hide (HC4.out.mv hm_ hp_); have HT5 := hide (DTs.mv HC4.out HT4.out hm_); clear q0 q1 q2 lq fq; obtain ⟨q0, q1, q2⟩ := At.z3 HC5.out.pr.at0; have lq := HC5.out.pr.lt; have fq := HC5.out.pr.free; clear hp_ hm_))
            obtain ⟨c0, c1, c2, c3, c4, c5⟩ := At.z6 HC5.out.blk.at0; have lc := HC5.out.blk.lt; have fc := HC5.out.blk.free
            go_wp2_with fail
            go_loopw [7] (fun v7 wr => ∃ m : Nat, m ≤ nk ∧ v7 = .int .i64 m ∧ Hid ((ks.take m).contains q = false) ∧ wr = w5) (fun v7 _ => nk - (intOf v7).toNat)
            case atStart => exact ⟨0, Nat.zero_le _, rfl, (by show _ = _; simp), rfl⟩
            case round =>
              obtain ⟨m, hm, rfl, HM, rfl⟩ := hrel
              obtain ⟨w5, rfl⟩ : ∃ x : World, x = wr := ⟨_, rfl⟩
              by_cases hlt : m < nk
              · have hmi : (m : Int) < (nk : Int) := by omega
                have hm0 : (0 : Int) ≤ (m : Int) := by omega
                obtain ⟨bK, oK, q1, hAe, hbK, hq, hcell⟩ := str_at (HC5.out.ok.sl (keys_fit _).len) (w := w5) inferInstance (k := m) (by rw [HL.out.2]; exact hlt)
                subst hAe
                have HTK : Hid ((ks.take (m + 1)).contains q = (decide (q1 = q))) := by
                  show _ = _
                  rw [List.take_add_one, hq, List.contains_append, HM.out]
                  simp [eq_comm]
                by_cases hqq : q1 = q
                · have hct : ks.contains q = true := by
                    rw [List.contains_iff_mem]
                    subst hqq
                    exact List.mem_of_getElem? hq
                  have HRN : Hid (R = .error 300) := by show _ = _; rw [← HTX.out]; exact objP_twice HTE.out hct
                  have HR : Hid (r = .error 300) := by show _ = _; rw [HRR.out, HRN.out]; rfl
                  subst hqq
                  clear hq HTK hct
                  go_upto_region 22 with ((go_at_call 26; go_loud (with_reducible refine (FL.out _ _ HC5.out.pr).mono ?_); rintro e w6 ⟨rfl, hp_, hm_⟩; have HC6 := hide (HC5.out.mv hm_ hp_); clear c0 c1 c2 c3 c4 c5 lc fc; clear hp_ hm_))
                  obtain ⟨z0, z1, z2, z3, z4, z5⟩ := At.z6 HC6.out.zer.at0
                  have lz := HC6.out.zer.lt
                  have fz := HC6.out.zer.free
                  obtain ⟨c0, c1, c2, c3, c4, c5⟩ := At.z6 HC6.out.blk.at0; have lc := HC6.out.blk.lt; have fc := HC6.out.blk.free
                  go_wp2_with fail
                  clear z0 z1 z2 z3 z4 z5 c0 c1 c2 c3 c4 c5
                  have hF := set6_blk HC6.out.zer (.int .i64 5) (.bool false) (.int .i64 0) (.string ⟨#[]⟩) (.slice A nl c) (.slice (some ⟨bK, oK, none⟩) nk cK)
                  obtain ⟨c0, c1, c2, c3, c4, c5⟩ := At.z6 hF.at0
                  have hD := dn_bad HC6.out HL.out.1 HL.out.2 hi5 (by decide)
                  obtain ⟨Y, hY⟩ : ∃ Y : World, Y = set6 w6 bb (.int .i64 5) (.bool false) (.int .i64 0) (.string ⟨#[]⟩) (.slice A nl c) (.slice (some ⟨bK, oK, none⟩) nk cK) := ⟨_, rfl⟩
                  rw [← hY] at hD c0 c1 c2 c3 c4 c5
                  unfold set6 at hY
                  rw [← hY]
                  clear hY hF
                  refine bodyPost_ret (v := .agg #[.int .i64 5, .bool false, .int .i64 0, .string ⟨#[]⟩, .slice A nl c, .slice (some ⟨bK, oK, none⟩) nk cK]) (by simp [results, Tryd.results40, go_sem, c0, c1, c2, c3, c4, c5]) rfl ?_
                  exact ⟨by rw [HR.out, HBE.out]; exact hD.1, hD.2⟩
                · have HMN : Hid ((ks.take (m + 1)).contains q = false) := by show _ = _; rw [HTK.out, decide_eq_false hqq]
                  have hqt : (q1.toList == q.toList) = false := beq_eq_false_iff_ne.2 (fun e => hqq (jl_inj e))
                  clear hq HTK
                  go_wp2_with fail
                  go_round
                  case rel => exact ⟨m + 1, by omega, by go_num, HMN, by first | trivial | rfl⟩
                  case measure => simp [intOf]; omega
              · obtain rfl : nk = m := by omega
                have HKF : Hid (ks.contains q = false) := by
                  have h_ := HM.out
                  rw [List.take_of_length_le (by rw [HL.out.2]; exact Nat.le_refl _)] at h_
                  exact h_
                clear hlt HM
                obtain ⟨hwb1, hwb2⟩ := white_bd hi5
                obtain ⟨k6, hk6e⟩ : ∃ k6, whiteE s i1 = k6 := ⟨_, rfl⟩
                rw [hk6e] at hwb1 hwb2
                have HK6 := hide hk6e
                clear hk6e
                by_cases h58 : bA s k6 = 58
                · have hk6s : k6 < s.size := bA_lt (by omega)
                  have hk61 : k6 + 1 ≤ s.size := by omega
                  have XWK6 := WK.out k6 hwb2
                  rw [decide_eq_true h58] at XWK6
                  have WK6 : Hid (∀ w', Dp w' g s k6 0 → Calls Tryd.prog 37 #[.pointer (some ⟨g, 0, none⟩), .string ⟨#[58]⟩] w' fun e w'' => e = .returned (.bool true) ∧ Dp w'' g s (k6 + 1) 0 ∧ Mv g w' w'') := XWK6
                  clear XWK6
                  have HVP := objP_val (val := val) (f := f) (l := T.js l) HTE.out HKF.out (by rw [HK6.out]; exact h58)
                  rw [HTX.out] at HVP
                  obtain ⟨hwc1, hwc2⟩ := white_bd hk61
                  obtain ⟨k8, hk8e⟩ : ∃ k8, whiteE s (k6 + 1) = k8 := ⟨_, rfl⟩
                  rw [HK6.out, hk8e] at HVP
                  rw [hk8e] at hwc1 hwc2
                  have HK8 := hide hk8e
                  have HVP := hide HVP
                  clear hk8e h58 HTX
                  have HVK : Hid (∀ w', Dp w' g s k8 0 → Calls Tryd.prog 25 #[.pointer (some ⟨g, 0, none⟩), .int .i64 dp] w' fun e w'' => (∃ (vk : Int) (vb : Bool) (vn : Int) (vs : ByteArray) (vA : Option Addr) (vc vnl : Nat) (vl : List T) (vAK : Option Addr) (vcK vnk : Nat) (vks : List ByteArray), e = .returned (.agg #[.int .i64 vk, .bool vb, .int .i64 vn, .string vs, .slice vA vnl vc, .slice vAK vnk vcK]) ∧ Hid (vl.length = vnl ∧ vks.length = vnk) ∧ ValC w'.heap.size g s (val k8) w'' (T.mk vk vb vn vs vA vc vl vAK vcK vks)) ∧ Mv g w' w'') := fun w' hp => (HVV.out k8 w' hp hwc2).mono fun e w'' hh => ⟨vald_cells hh.1, hh.2⟩
                  cases hvv : val k8 with
                  | error ec =>
                    have hec := HVE.out _ _ hvv
                    have HRE : Hid (R = .error ec) := by show _ = _; rw [HVP.out, hvv]
                    rw [hvv] at HVK
                    have HVK : Hid (∀ w', Dp w' g s k8 0 → Calls Tryd.prog 25 #[.pointer (some ⟨g, 0, none⟩), .int .i64 dp] w' fun e w'' => (∃ (vk : Int) (vb : Bool) (vn : Int) (vs : ByteArray) (vA : Option Addr) (vc vnl : Nat) (vl : List T) (vAK : Option Addr) (vcK vnk : Nat) (vks : List ByteArray), e = .returned (.agg #[.int .i64 vk, .bool vb, .int .i64 vn, .string vs, .slice vA vnl vc, .slice vAK vnk vcK]) ∧ Hid (vl.length = vnl ∧ vks.length = vnk) ∧ (∃ i, Dp w'' g s i ec ∧ i ≤ s.size ∧ ec ≠ 0)) ∧ Mv g w' w'') := HVK
                    clear hvv HVP
                    go_upto_region 29 with (first | (go_at_call 24; go_loud (with_reducible refine (WH.out i1 0 hi5 _ HC5.out.pr).mono ?_); rintro e w6 ⟨rfl, hp0, hm_⟩; have hp_ := hp0; rw [HK6.out] at hp_; have HC6 := hide (HC5.out.mv hm_ hp_); have HT6 := hide (DTs.mv HC5.out HT5.out hm_); clear c0 c1 c2 c3 c4 c5 lc fc q0 q1 q2 lq fq; clear hp_ hp0 hm_) | (go_at_call 37; go_loud (with_reducible refine (WK6.out _ HC6.out.pr).mono ?_); rintro e w7 ⟨rfl, hp_, hm_⟩; have HC7 := hide (HC6.out.mv hm_ hp_); have HT7 := hide (DTs.mv HC6.out HT6.out hm_); clear hp_ hm_) | (go_at_call 24; go_loud (with_reducible refine (WH.out (k6 + 1) 0 hk61 _ HC7.out.pr).mono ?_); rintro e w8 ⟨rfl, hp0, hm_⟩; have hp_ := hp0; rw [HK8.out] at hp_; have HC8 := hide (HC7.out.mv hm_ hp_); have HT8 := hide (DTs.mv HC7.out HT7.out hm_); clear hp_ hp0 hm_) | (go_at_call 25; go_loud (with_reducible refine (HVK.out _ HC8.out.pr).mono ?_); rintro e w9 ⟨⟨vk, vb, vn, vs, vA, vc, vnl, vl, vAK, vcK, vnk, vks, rfl, HVL, iE, hp_, hiE, _⟩, hm_⟩; have HC9 := hide (HC8.out.mv hm_ hp_); clear hp_ hm_))
                    obtain ⟨W9, hW9⟩ : ∃ W : World, W = w9.alloc (.cells #[.int .i64 vk, .bool vb, .int .i64 vn, .string vs, .slice vA vnl vc, .slice vAK vnk vcK] 25) := ⟨_, rfl⟩
                    have HJ9 : Hid (Blk W9 w9.heap.size 25 [.int .i64 vk, .bool vb, .int .i64 vn, .string vs, .slice vA vnl vc, .slice vAK vnk vcK]) := by rw [hW9]; exact Blk.new w9 _ 25
                    have hs9 : Step w9 W9 := by rw [hW9]; exact Step.of
                    rw [← hW9]
                    clear hW9
                    have HD9 := hide (HC9.out.step (w2 := W9))
                    have HCA := hide (HC9.out.step (w2 := W9.alloc (.cells #[.string q] 9)))
                    have hy : [.int .i64 vk, .bool vb, .int .i64 vn, .string vs, .slice vA vnl vc, .slice vAK vnk vcK] = T.cells (T.mk vk vb vn vs vA vc vl vAK vcK vks) := by rw [T.cells, HVL.out.1, HVL.out.2]
                    have HY := hide hy
                    clear hy
                    obtain ⟨c0, c1, c2, c3, c4, c5⟩ := At.z6 HD9.out.blk.at0; have lc := HD9.out.blk.lt; have fc := HD9.out.blk.free
                    have hnk8 : nk ≤ 65536 := by omega
                    have hnl8 : nl ≤ 65536 := by omega
                    go_upto_region 30 with (at_builtin; go_loud (refine wpList_append_slB rfl (.tmp 98) (.tmp 100) 23 rfl eiK (base := bb + 2) (xs := strCells ks) rfl HCA.out.ok (keys_fit _) (ad := ⟨W9.heap.size, 0, none⟩) (c := 1) (y := [.string q]) rfl (cells_at W9 [.string q] 9) (keys_fit [q]) (by rw [strCells, List.length_map, HL.out.2]; omega) HCA.out.size (N := nk + 1) (by rw [strCells, List.length_map, HL.out.2]) ?_; intro AB cB wB ho7 hg7 hb7 hA7; have HCB := hide (HCA.out.addK hg7 ho7); have HJB := hide ((HJ9.out.fut (w' := W9.alloc (.cells #[.string q] 9))).grown hg7 (by intro e; have := (HC9.out.ok.lt _ e.symm).2; omega)); have hb7_ := HCA.out.blk.grown hg7 (by intro e; have := (HCA.out.ok.lt _ e.symm).1; omega); clear ho7 hg7 hb7 hA7; clear c0 c1 c2 c3 c4 c5 lc fc; obtain ⟨c0, c1, c2, c3, c4, c5⟩ := At.z6 hb7_.at0; have lc := hb7_.lt; have fc := hb7_.free; clear hb7_))
                    have HJC := hide (HJB.out.far (p := ⟨bb + 1, 5, none⟩) (by show w9.heap.size ≠ bb + 1; have := HC9.out.size; omega) (.slice AB (nk + 1) cB))
                    obtain ⟨V, hV⟩ : ∃ V : World, V = wB.setCell ⟨bb + 1, 5, none⟩ (.slice AB (nk + 1) cB) := ⟨_, rfl⟩
                    rw [← hV] at HCB HJC
                    rw [← hV]
                    clear hV c0 c1 c2 c3 c4 c5 lc fc HJB
                    obtain ⟨c0, c1, c2, c3, c4, c5⟩ := At.z6 HCB.out.blk.at0; have lc := HCB.out.blk.lt; have fc := HCB.out.blk.free
                    obtain ⟨y0, y1, y2, y3, y4, y5⟩ := At.z6 HJC.out.at0
                    have ly := HJC.out.lt
                    have HCC := hide (HCB.out.step (w2 := V.alloc (.cells #[.int .i64 vk, .bool vb, .int .i64 vn, .string vs, .slice vA vnl vc, .slice vAK vnk vcK] 25)))
                    go_upto_region 31 with (at_builtin; go_loud (refine wpList_append_slB rfl (.tmp 104) (.tmp 106) 22 rfl eiJ (base := bb + 2) (xs := l.map T.cells) rfl HCC.out.ol (tree_fit _) (ad := ⟨V.heap.size, 0, none⟩) (c := 1) (y := [.int .i64 vk, .bool vb, .int .i64 vn, .string vs, .slice vA vnl vc, .slice vAK vnk vcK]) rfl (cells_at V [.int .i64 vk, .bool vb, .int .i64 vn, .string vs, .slice vA vnl vc, .slice vAK vnk vcK] 25) (by rw [HY.out]; exact tree_fit [_]) (by rw [List.length_map, HL.out.1]; omega) HCC.out.size (N := nl + 1) (by rw [List.length_map, HL.out.1]) ?_; intro A7 c7 w7 ho7 hg7 hb7 hA7; have HCD := hide (HCC.out.addL HY.out hg7 ho7); have hb7_ := HCC.out.blk.grown hg7 (by intro e; have := (HCC.out.ol.lt _ e.symm).1; omega); clear ho7 hg7 hb7 hA7; clear c0 c1 c2 c3 c4 c5 lc fc; obtain ⟨c0, c1, c2, c3, c4, c5⟩ := At.z6 hb7_.at0; have lc := hb7_.lt; have fc := hb7_.free; clear hb7_))
                    clear y0 y1 y2 y3 y4 y5 ly c0 c1 c2 c3 c4 c5 lc fc
                    have hec0 : (ec == 0) = false := beq_eq_false_iff_ne.2 (by omega)
                    go_wp2_with ((go_at_call 24; go_loud (with_reducible refine (WH.out iE ec hiE _ HCD.out.pr).mono ?_); rintro e wE ⟨rfl, hp_, hm_⟩; have HCE := hide (HCD.out.mv hm_ hp_); obtain ⟨q0, q1, q2⟩ := At.z3 HCE.out.pr.at0; have lq := HCE.out.pr.lt; have fq := HCE.out.pr.free; clear hp_ hm_))
                    go_roundw
                    case rel => exact .inr ⟨whiteE s iE, ec, _, A7, c7, nl + 1, _, AB, cB, nk + 1, (white_bd hiE).2, hec, HRE, ⟨(by rw [List.length_append, HL.out.1]; rfl), (by rw [List.length_append, HL.out.2]; rfl)⟩, HCE.out⟩
                    case measure => rw [msr_z HCE.out.pr hec, msr_ok HC.out.pr]; omega
                  | ok ji =>
                    obtain ⟨j, i4⟩ := ji
                    have HTJ : Hid (elemsP val s true f (whiteE s i4) false (T.js l ++ [j]) (ks ++ [q]) = R) := by have := HVP.out; rw [hvv] at this; exact this.symm
                    have hgt := HVG.out _ _ _ hvv
                    rw [hvv] at HVK
                    have HVK : Hid (∀ w', Dp w' g s k8 0 → Calls Tryd.prog 25 #[.pointer (some ⟨g, 0, none⟩), .int .i64 dp] w' fun e w'' => (∃ (vk : Int) (vb : Bool) (vn : Int) (vs : ByteArray) (vA : Option Addr) (vc vnl : Nat) (vl : List T) (vAK : Option Addr) (vcK vnk : Nat) (vks : List ByteArray), e = .returned (.agg #[.int .i64 vk, .bool vb, .int .i64 vn, .string vs, .slice vA vnl vc, .slice vAK vnk vcK]) ∧ Hid (vl.length = vnl ∧ vks.length = vnk) ∧ (T.j (T.mk vk vb vn vs vA vc vl vAK vcK vks) = j ∧ TAt w'' (fun k => w'.heap.size ≤ k) (T.mk vk vb vn vs vA vc vl vAK vcK vks) ∧ Dp w'' g s i4 0 ∧ i4 ≤ s.size)) ∧ Mv g w' w'') := HVK
                    clear hvv HVP
                    go_upto_region 29 with (first | (go_at_call 24; go_loud (with_reducible refine (WH.out i1 0 hi5 _ HC5.out.pr).mono ?_); rintro e w6 ⟨rfl, hp0, hm_⟩; have hp_ := hp0; rw [HK6.out] at hp_; have HC6 := hide (HC5.out.mv hm_ hp_); have HT6 := hide (DTs.mv HC5.out HT5.out hm_); clear c0 c1 c2 c3 c4 c5 lc fc q0 q1 q2 lq fq; clear hp_ hp0 hm_) | (go_at_call 37; go_loud (with_reducible refine (WK6.out _ HC6.out.pr).mono ?_); rintro e w7 ⟨rfl, hp_, hm_⟩; have HC7 := hide (HC6.out.mv hm_ hp_); have HT7 := hide (DTs.mv HC6.out HT6.out hm_); clear hp_ hm_) | (go_at_call 24; go_loud (with_reducible refine (WH.out (k6 + 1) 0 hk61 _ HC7.out.pr).mono ?_); rintro e w8 ⟨rfl, hp0, hm_⟩; have hp_ := hp0; rw [HK8.out] at hp_; have HC8 := hide (HC7.out.mv hm_ hp_); have HT8 := hide (DTs.mv HC7.out HT7.out hm_); clear hp_ hp0 hm_) | (go_at_call 25; go_loud (with_reducible refine (HVK.out _ HC8.out.pr).mono ?_); rintro e w9 ⟨⟨vk, vb, vn, vs, vA, vc, vnl, vl, vAK, vcK, vnk, vks, rfl, HVL, hvj, ht5, hp_, hi4⟩, hm_⟩; have HVJ := hide hvj; have HC9 := hide (HC8.out.mv hm_ hp_); have HT9 := hide (DTs.mv HC8.out HT8.out hm_); have HTV := hide (TAt.weak (fun _ hq => HC8.out.fresh hq) ht5); clear hp_ hm_ ht5 hvj))
                    obtain ⟨W9, hW9⟩ : ∃ W : World, W = w9.alloc (.cells #[.int .i64 vk, .bool vb, .int .i64 vn, .string vs, .slice vA vnl vc, .slice vAK vnk vcK] 25) := ⟨_, rfl⟩
                    have HJ9 : Hid (Blk W9 w9.heap.size 25 [.int .i64 vk, .bool vb, .int .i64 vn, .string vs, .slice vA vnl vc, .slice vAK vnk vcK]) := by rw [hW9]; exact Blk.new w9 _ 25
                    have hs9 : Step w9 W9 := by rw [hW9]; exact Step.of
                    rw [← hW9]
                    clear hW9
                    have HD9 := hide (HC9.out.step (w2 := W9))
                    have HCA := hide (HC9.out.step (w2 := W9.alloc (.cells #[.string q] 9)))
                    have hy : [.int .i64 vk, .bool vb, .int .i64 vn, .string vs, .slice vA vnl vc, .slice vAK vnk vcK] = T.cells (T.mk vk vb vn vs vA vc vl vAK vcK vks) := by rw [T.cells, HVL.out.1, HVL.out.2]
                    have HY := hide hy
                    clear hy
                    obtain ⟨c0, c1, c2, c3, c4, c5⟩ := At.z6 HD9.out.blk.at0; have lc := HD9.out.blk.lt; have fc := HD9.out.blk.free
                    have hnk8 : nk ≤ 65536 := by omega
                    have hnl8 : nl ≤ 65536 := by omega
                    go_upto_region 30 with (at_builtin; go_loud (refine wpList_append_slB rfl (.tmp 98) (.tmp 100) 23 rfl eiK (base := bb + 2) (xs := strCells ks) rfl HCA.out.ok (keys_fit _) (ad := ⟨W9.heap.size, 0, none⟩) (c := 1) (y := [.string q]) rfl (cells_at W9 [.string q] 9) (keys_fit [q]) (by rw [strCells, List.length_map, HL.out.2]; omega) HCA.out.size (N := nk + 1) (by rw [strCells, List.length_map, HL.out.2]) ?_; intro AB cB wB ho7 hg7 hb7 hA7; have HCB := hide (HCA.out.addK hg7 ho7); have HT9A : TAts (W9.alloc (.cells #[.string q] 9)) (okD bb A AK) l := DTs.step HC9.out HT9.out; have HTVA : TAt (W9.alloc (.cells #[.string q] 9)) (okD bb A AK) (T.mk vk vb vn vs vA vc vl vAK vcK vks) := TAt.grown (row := none) (grown_of_below_ (fut w9 (W9.alloc (.cells #[.string q] 9)))) (fun q _ e => by cases e) HTV.out; have HTB := hide (DTs.addK (c2 := cB) HCA.out HT9A hg7 hA7); have HTVB := hide (DTs.addK2 (c2 := cB) HCA.out HTVA hg7 hA7); clear HT9A HTVA; have HJB := hide ((HJ9.out.fut (w' := W9.alloc (.cells #[.string q] 9))).grown hg7 (by intro e; have := (HC9.out.ok.lt _ e.symm).2; omega)); have hb7_ := HCA.out.blk.grown hg7 (by intro e; have := (HCA.out.ok.lt _ e.symm).1; omega); clear ho7 hg7 hb7 hA7; clear c0 c1 c2 c3 c4 c5 lc fc; obtain ⟨c0, c1, c2, c3, c4, c5⟩ := At.z6 hb7_.at0; have lc := hb7_.lt; have fc := hb7_.free; clear hb7_))
                    have HJC := hide (HJB.out.far (p := ⟨bb + 1, 5, none⟩) (by show w9.heap.size ≠ bb + 1; have := HC9.out.size; omega) (.slice AB (nk + 1) cB))
                    obtain ⟨V, hV⟩ : ∃ V : World, V = wB.setCell ⟨bb + 1, 5, none⟩ (.slice AB (nk + 1) cB) := ⟨_, rfl⟩
                    rw [← hV] at HCB HJC HTB HTVB
                    rw [← hV]
                    clear hV c0 c1 c2 c3 c4 c5 lc fc HJB
                    obtain ⟨c0, c1, c2, c3, c4, c5⟩ := At.z6 HCB.out.blk.at0; have lc := HCB.out.blk.lt; have fc := HCB.out.blk.free
                    obtain ⟨y0, y1, y2, y3, y4, y5⟩ := At.z6 HJC.out.at0
                    have ly := HJC.out.lt
                    have HCC := hide (HCB.out.step (w2 := V.alloc (.cells #[.int .i64 vk, .bool vb, .int .i64 vn, .string vs, .slice vA vnl vc, .slice vAK vnk vcK] 25)))
                    go_upto_region 31 with (at_builtin; go_loud (refine wpList_append_slB rfl (.tmp 104) (.tmp 106) 22 rfl eiJ (base := bb + 2) (xs := l.map T.cells) rfl HCC.out.ol (tree_fit _) (ad := ⟨V.heap.size, 0, none⟩) (c := 1) (y := [.int .i64 vk, .bool vb, .int .i64 vn, .string vs, .slice vA vnl vc, .slice vAK vnk vcK]) rfl (cells_at V [.int .i64 vk, .bool vb, .int .i64 vn, .string vs, .slice vA vnl vc, .slice vAK vnk vcK] 25) (by rw [HY.out]; exact tree_fit [_]) (by rw [List.length_map, HL.out.1]; omega) HCC.out.size (N := nl + 1) (by rw [List.length_map, HL.out.1]) ?_; intro A7 c7 w7 ho7 hg7 hb7 hA7; have HCD := hide (HCC.out.addL HY.out hg7 ho7); have HTC6 : TAts (V.alloc (.cells #[.int .i64 vk, .bool vb, .int .i64 vn, .string vs, .slice vA vnl vc, .slice vAK vnk vcK] 25)) (okD bb A AB) l := DTs.step HCB.out HTB.out; have HTVC : TAt (V.alloc (.cells #[.int .i64 vk, .bool vb, .int .i64 vn, .string vs, .slice vA vnl vc, .slice vAK vnk vcK] 25)) (okD bb A AB) (T.mk vk vb vn vs vA vc vl vAK vcK vks) := TAt.grown (row := none) (grown_of_below_ (fut V (V.alloc (.cells #[.int .i64 vk, .bool vb, .int .i64 vn, .string vs, .slice vA vnl vc, .slice vAK vnk vcK] 25)))) (fun q _ e => by cases e) HTVB.out; have HTD := hide (DTs.addL (c2 := c7) HCC.out HTC6 HTVC hg7 hA7); clear HTC6 HTVC; have hb7_ := HCC.out.blk.grown hg7 (by intro e; have := (HCC.out.ol.lt _ e.symm).1; omega); clear ho7 hg7 hb7 hA7; clear c0 c1 c2 c3 c4 c5 lc fc; obtain ⟨c0, c1, c2, c3, c4, c5⟩ := At.z6 hb7_.at0; have lc := hb7_.lt; have fc := hb7_.free; clear hb7_))
                    clear y0 y1 y2 y3 y4 y5 ly c0 c1 c2 c3 c4 c5 lc fc
                    have hwb := white_bd hi4
                    obtain ⟨k2, hk2e⟩ : ∃ k2, whiteE s i4 = k2 := ⟨_, rfl⟩
                    rw [hk2e] at hwb HTJ
                    have HK2 := hide hk2e
                    clear hk2e
                    obtain ⟨hwd1, hwd2⟩ := hwb
                    obtain ⟨f, rfl⟩ : ∃ q, f = q + 1 := ⟨f - 1, by omega⟩
                    have HLN : Hid ((l ++ [(T.mk vk vb vn vs vA vc vl vAK vcK vks)]).length = nl + 1 ∧ (ks ++ [q]).length = nk + 1) := ⟨by rw [List.length_append, HL.out.1]; rfl, by rw [List.length_append, HL.out.2]; rfl⟩
                    have HJS : Hid (T.js (l ++ [(T.mk vk vb vn vs vA vc vl vAK vcK vks)]) = T.js l ++ [j]) := by show _ = _; rw [js_app, T.js, T.js, HVJ.out]
                    by_cases he93 : bA s k2 = 125
                    · have hk2s : k2 < s.size := bA_lt (by omega)
                      have HR : Hid (r = .ok (.mk 5 false 0 ⟨#[]⟩ (T.js (l ++ [(T.mk vk vb vn vs vA vc vl vAK vcK vks)])) (ks ++ [q]), k2 + 1)) := by show _ = _; rw [HRR.out, ← HTJ.out, el_end (by rw [he93]; rfl), HJS.out]; rfl
                      have XWB2 := WB.out k2 hwd2
                      rw [decide_eq_true he93] at XWB2
                      have WB2 : Hid (∀ w', Dp w' g s k2 0 → Calls Tryd.prog 37 #[.pointer (some ⟨g, 0, none⟩), .string ⟨#[125]⟩] w' fun e w'' => e = .returned (.bool true) ∧ Dp w'' g s (k2 + 1) 0 ∧ Mv g w' w'') := XWB2
                      clear XWB2
                      clear he93
                      go_upto_region 33 with (first | (go_at_call 24; go_loud (with_reducible refine (WH.out i4 0 hi4 _ HCD.out.pr).mono ?_); rintro e wE ⟨rfl, hp0, hm_⟩; have hp_ := hp0; rw [HK2.out] at hp_; have HCE := hide (HCD.out.mv hm_ hp_); have HTE2 := hide (DTs.mv HCD.out HTD.out hm_); obtain ⟨q0, q1, q2⟩ := At.z3 HCE.out.pr.at0; have lq := HCE.out.pr.lt; have fq := HCE.out.pr.free; clear hp_ hp0 hm_) | (go_at_call 37; go_loud (with_reducible refine (WB2.out _ HCE.out.pr).mono ?_); rintro e wG ⟨rfl, hp_, hm_⟩; have HCG := hide (HCE.out.mv hm_ hp_); have HTG := hide (DTs.mv HCE.out HTE2.out hm_); clear hp_ hm_))
                      obtain ⟨z0, z1, z2, z3, z4, z5⟩ := At.z6 HCG.out.zer.at0
                      have lz := HCG.out.zer.lt
                      have fz := HCG.out.zer.free
                      obtain ⟨c0, c1, c2, c3, c4, c5⟩ := At.z6 HCG.out.blk.at0; have lc := HCG.out.blk.lt; have fc := HCG.out.blk.free
                      go_wp2_with fail
                      clear z0 z1 z2 z3 z4 z5 c0 c1 c2 c3 c4 c5
                      have hF := set6_blk HCG.out.zer (.int .i64 5) (.bool false) (.int .i64 0) (.string ⟨#[]⟩) (.slice A7 (nl + 1) c7) (.slice AB (nk + 1) cB)
                      obtain ⟨c0, c1, c2, c3, c4, c5⟩ := At.z6 hF.at0
                      have hD := dn_ok HCG.out HTG.out HLN.out.1 HLN.out.2 (by omega)
                      obtain ⟨Y, hY⟩ : ∃ Y : World, Y = set6 wG bb (.int .i64 5) (.bool false) (.int .i64 0) (.string ⟨#[]⟩) (.slice A7 (nl + 1) c7) (.slice AB (nk + 1) cB) := ⟨_, rfl⟩
                      rw [← hY] at hD c0 c1 c2 c3 c4 c5
                      unfold set6 at hY
                      rw [← hY]
                      clear hY hF
                      refine bodyPost_ret (v := .agg #[.int .i64 5, .bool false, .int .i64 0, .string ⟨#[]⟩, .slice A7 (nl + 1) c7, .slice AB (nk + 1) cB]) (by simp [results, Tryd.results40, go_sem, c0, c1, c2, c3, c4, c5]) rfl ?_
                      exact ⟨by rw [HR.out, HBE.out]; exact hD.1, hD.2⟩
                    · skip
                      have XWB2 := WB.out k2 hwd2
                      rw [decide_eq_false he93] at XWB2
                      have WB2 : Hid (∀ w', Dp w' g s k2 0 → Calls Tryd.prog 37 #[.pointer (some ⟨g, 0, none⟩), .string ⟨#[125]⟩] w' fun e w'' => e = .returned (.bool false) ∧ Dp w'' g s (k2) 0 ∧ Mv g w' w'') := XWB2
                      clear XWB2
                      by_cases he44 : bA s k2 = 44
                      · have hk2s : k2 < s.size := bA_lt (by omega)
                        have HTN : Hid (objP val s f (k2 + 1) (T.js (l ++ [(T.mk vk vb vn vs vA vc vl vAK vcK vks)])) (ks ++ [q]) = R) := by show _ = _; rw [← HTJ.out, HJS.out, el_objP he93 he44]
                        have XWC2 := WC.out k2 hwd2
                        rw [decide_eq_true he44] at XWC2
                        have WC2 : Hid (∀ w', Dp w' g s k2 0 → Calls Tryd.prog 37 #[.pointer (some ⟨g, 0, none⟩), .string ⟨#[44]⟩] w' fun e w'' => e = .returned (.bool true) ∧ Dp w'' g s (k2 + 1) 0 ∧ Mv g w' w'') := XWC2
                        clear XWC2
                        clear he93 he44
                        go_wp2_with (first | (go_at_call 24; go_loud (with_reducible refine (WH.out i4 0 hi4 _ HCD.out.pr).mono ?_); rintro e wE ⟨rfl, hp0, hm_⟩; have hp_ := hp0; rw [HK2.out] at hp_; have HCE := hide (HCD.out.mv hm_ hp_); have HTE2 := hide (DTs.mv HCD.out HTD.out hm_); obtain ⟨q0, q1, q2⟩ := At.z3 HCE.out.pr.at0; have lq := HCE.out.pr.lt; have fq := HCE.out.pr.free; clear hp_ hp0 hm_) | (go_at_call 37; go_loud (with_reducible refine (WB2.out _ HCE.out.pr).mono ?_); rintro e wG ⟨rfl, hp_, hm_⟩; have HCG := hide (HCE.out.mv hm_ hp_); have HTG := hide (DTs.mv HCE.out HTE2.out hm_); clear q0 q1 q2 lq fq; obtain ⟨q0, q1, q2⟩ := At.z3 HCG.out.pr.at0; have lq := HCG.out.pr.lt; have fq := HCG.out.pr.free; clear hp_ hm_) | (go_at_call 37; go_loud (with_reducible refine (WC2.out _ HCG.out.pr).mono ?_); rintro e wH ⟨rfl, hp_, hm_⟩; have HCH := hide (HCG.out.mv hm_ hp_); have HTH := hide (DTs.mv HCG.out HTG.out hm_); clear hp_ hm_))
                        go_roundw
                        case rel => exact .inl ⟨f, k2 + 1, _, A7, c7, nl + 1, _, AB, cB, nk + 1, by omega, by omega, by omega, HLN, by omega, by omega, HTN.out, HCH.out, HTH.out⟩
                        case measure => rw [msr_ok HCH.out.pr, msr_ok HC.out.pr]; omega
                      · have HRN : Hid (R = .error 300) := by show _ = _; rw [← HTJ.out, el_comma (by exact he93) he44]
                        have XWC2 := WC.out k2 hwd2
                        rw [decide_eq_false he44] at XWC2
                        have WC2 : Hid (∀ w', Dp w' g s k2 0 → Calls Tryd.prog 37 #[.pointer (some ⟨g, 0, none⟩), .string ⟨#[44]⟩] w' fun e w'' => e = .returned (.bool false) ∧ Dp w'' g s (k2) 0 ∧ Mv g w' w'') := XWC2
                        clear XWC2
                        clear he93 he44
                        go_wp2_with (first | (go_at_call 24; go_loud (with_reducible refine (WH.out i4 0 hi4 _ HCD.out.pr).mono ?_); rintro e wE ⟨rfl, hp0, hm_⟩; have hp_ := hp0; rw [HK2.out] at hp_; have HCE := hide (HCD.out.mv hm_ hp_); have HTE2 := hide (DTs.mv HCD.out HTD.out hm_); obtain ⟨q0, q1, q2⟩ := At.z3 HCE.out.pr.at0; have lq := HCE.out.pr.lt; have fq := HCE.out.pr.free; clear hp_ hp0 hm_) | (go_at_call 37; go_loud (with_reducible refine (WB2.out _ HCE.out.pr).mono ?_); rintro e wG ⟨rfl, hp_, hm_⟩; have HCG := hide (HCE.out.mv hm_ hp_); have HTG := hide (DTs.mv HCE.out HTE2.out hm_); clear q0 q1 q2 lq fq; obtain ⟨q0, q1, q2⟩ := At.z3 HCG.out.pr.at0; have lq := HCG.out.pr.lt; have fq := HCG.out.pr.free; clear hp_ hm_) | (go_at_call 37; go_loud (with_reducible refine (WC2.out _ HCG.out.pr).mono ?_); rintro e wH ⟨rfl, hp_, hm_⟩; have HCH := hide (HCG.out.mv hm_ hp_); clear hp_ hm_) | (go_at_call 26; go_loud (with_reducible refine (FL.out _ _ HCH.out.pr).mono ?_); rintro e wI ⟨rfl, hp_, hm_⟩; have HCI := hide (HCH.out.mv hm_ hp_); clear hp_ hm_))
                        go_roundw
                        case rel => exact .inr ⟨k2, 300, _, A7, c7, nl + 1, _, AB, cB, nk + 1, hwd2, by omega, HRN, HLN, HCI.out⟩
                        case measure => rw [msr_z HCI.out.pr (by omega), msr_ok HC.out.pr]; omega
                · have HRN : Hid (R = .error 300) := by show _ = _; rw [← HTX.out]; exact objP_colon HTE.out HKF.out (by rw [HK6.out]; exact h58)
                  have HR : Hid (r = .error 300) := by show _ = _; rw [HRR.out, HRN.out]; rfl
                  have XWK6 := WK.out k6 hwb2
                  rw [decide_eq_false h58] at XWK6
                  have WK6 : Hid (∀ w', Dp w' g s k6 0 → Calls Tryd.prog 37 #[.pointer (some ⟨g, 0, none⟩), .string ⟨#[58]⟩] w' fun e w'' => e = .returned (.bool false) ∧ Dp w'' g s (k6) 0 ∧ Mv g w' w'') := XWK6
                  clear XWK6
                  clear h58
                  go_upto_region 26 with (first | (go_at_call 24; go_loud (with_reducible refine (WH.out i1 0 hi5 _ HC5.out.pr).mono ?_); rintro e w6 ⟨rfl, hp0, hm_⟩; have hp_ := hp0; rw [HK6.out] at hp_; have HC6 := hide (HC5.out.mv hm_ hp_); have HT6 := hide (DTs.mv HC5.out HT5.out hm_); clear c0 c1 c2 c3 c4 c5 lc fc q0 q1 q2 lq fq; clear hp_ hp0 hm_) | (go_at_call 37; go_loud (with_reducible refine (WK6.out _ HC6.out.pr).mono ?_); rintro e w7 ⟨rfl, hp_, hm_⟩; have HC7 := hide (HC6.out.mv hm_ hp_); have HT7 := hide (DTs.mv HC6.out HT6.out hm_); clear hp_ hm_) | (go_at_call 26; go_loud (with_reducible refine (FL.out _ _ HC7.out.pr).mono ?_); rintro e w8 ⟨rfl, hp_, hm_⟩; have HC8 := hide (HC7.out.mv hm_ hp_); clear hp_ hm_))
                  obtain ⟨z0, z1, z2, z3, z4, z5⟩ := At.z6 HC8.out.zer.at0
                  have lz := HC8.out.zer.lt
                  have fz := HC8.out.zer.free
                  obtain ⟨c0, c1, c2, c3, c4, c5⟩ := At.z6 HC8.out.blk.at0; have lc := HC8.out.blk.lt; have fc := HC8.out.blk.free
                  go_wp2_with fail
                  clear z0 z1 z2 z3 z4 z5 c0 c1 c2 c3 c4 c5
                  have hF := set6_blk HC8.out.zer (.int .i64 5) (.bool false) (.int .i64 0) (.string ⟨#[]⟩) (.slice A nl c) (.slice AK nk cK)
                  obtain ⟨c0, c1, c2, c3, c4, c5⟩ := At.z6 hF.at0
                  have hD := dn_bad HC8.out HL.out.1 HL.out.2 hwb2 (by decide)
                  obtain ⟨Y, hY⟩ : ∃ Y : World, Y = set6 w8 bb (.int .i64 5) (.bool false) (.int .i64 0) (.string ⟨#[]⟩) (.slice A nl c) (.slice AK nk cK) := ⟨_, rfl⟩
                  rw [← hY] at hD c0 c1 c2 c3 c4 c5
                  unfold set6 at hY
                  rw [← hY]
                  clear hY hF
                  refine bodyPost_ret (v := .agg #[.int .i64 5, .bool false, .int .i64 0, .string ⟨#[]⟩, .slice A nl c, .slice AK nk cK]) (by simp [results, Tryd.results40, go_sem, c0, c1, c2, c3, c4, c5]) rfl ?_
                  exact ⟨by rw [HR.out, HBE.out]; exact hD.1, hD.2⟩
        · have HRN : Hid (R = .error 300) := by show _ = _; rw [← HTX.out]; exact objP_none (by rw [HK0.out]; exact text_no h34)
          have HR : Hid (r = .error 300) := by show _ = _; rw [HRR.out, HRN.out]; rfl
          by_cases hk0s : k0 < s.size
          · have hkl : (k0 : Int) < (s.size : Int) := by omega
            have hkp : (0 : Int) ≤ (k0 : Int) := by omega
            have hkd : decide ((k0 : Int) ≥ (s.size : Int)) = false := decide_eq_false (by omega)
            have hkd2 : decide ((s.size : Int) ≤ (k0 : Int)) = false := decide_eq_false (by omega)
            have hkd3 : decide (s.size ≤ k0) = false := decide_eq_false (by omega)
            have hA34 := bA_at hk0s
            have e34b : ((s[k0].toNat : Int) != 34) = true := bne_iff_ne.2 (by omega)
            clear hA34 h34
            go_wp2_with fail
            go_quiet (fail)
            obtain ⟨w4, hw4⟩ : ∃ x, x = w3.drewN nq := ⟨_, rfl⟩
            have hs4 : Step w3 w4 := by rw [hw4]; exact Step.of
            rw [← hw4]
            have HC4 := hide (HC3.out.step (w2 := w4))
            have HT4 := hide (DTs.step (w2 := w4) HC3.out HT3.out)
            clear hw4 q0 q1 q2 lq fq
            obtain ⟨q0, q1, q2⟩ := At.z3 HC4.out.pr.at0
            have lq := HC4.out.pr.lt
            have fq := HC4.out.pr.free
            clear hkd hkd2 hkd3
            go_upto_region 13 with ((go_at_call 26; go_loud (with_reducible refine (FL.out _ _ HC4.out.pr).mono ?_); rintro e w5 ⟨rfl, hp_, hm_⟩; have HC5 := hide (HC4.out.mv hm_ hp_); clear hp_ hm_))
            obtain ⟨z0, z1, z2, z3, z4, z5⟩ := At.z6 HC5.out.zer.at0
            have lz := HC5.out.zer.lt
            have fz := HC5.out.zer.free
            obtain ⟨c0, c1, c2, c3, c4, c5⟩ := At.z6 HC5.out.blk.at0; have lc := HC5.out.blk.lt; have fc := HC5.out.blk.free
            go_wp2_with fail
            clear z0 z1 z2 z3 z4 z5 c0 c1 c2 c3 c4 c5
            have hF := set6_blk HC5.out.zer (.int .i64 5) (.bool false) (.int .i64 0) (.string ⟨#[]⟩) (.slice A nl c) (.slice AK nk cK)
            obtain ⟨c0, c1, c2, c3, c4, c5⟩ := At.z6 hF.at0
            have hD := dn_bad HC5.out HL.out.1 HL.out.2 hwk1 (by decide)
            obtain ⟨Y, hY⟩ : ∃ Y : World, Y = set6 w5 bb (.int .i64 5) (.bool false) (.int .i64 0) (.string ⟨#[]⟩) (.slice A nl c) (.slice AK nk cK) := ⟨_, rfl⟩
            rw [← hY] at hD c0 c1 c2 c3 c4 c5
            unfold set6 at hY
            rw [← hY]
            clear hY hF
            refine bodyPost_ret (v := .agg #[.int .i64 5, .bool false, .int .i64 0, .string ⟨#[]⟩, .slice A nl c, .slice AK nk cK]) (by simp [results, Tryd.results40, go_sem, c0, c1, c2, c3, c4, c5]) rfl ?_
            exact ⟨by rw [HR.out, HBE.out]; exact hD.1, hD.2⟩
          · have hkd : decide ((k0 : Int) ≥ (s.size : Int)) = true := decide_eq_true (by omega)
            have hkd2 : decide ((s.size : Int) ≤ (k0 : Int)) = true := decide_eq_true (by omega)
            have hkd3 : decide (s.size ≤ k0) = true := decide_eq_true (by omega)
            have hkd4 : (s.size : Int) ≤ (k0 : Int) := by omega
            have hkd5 : (k0 : Int) ≥ (s.size : Int) := by omega
            clear h34
            go_wp2_with fail
            go_quiet (fail)
            obtain ⟨w4, hw4⟩ : ∃ x, x = w3.drewN nq := ⟨_, rfl⟩
            have hs4 : Step w3 w4 := by rw [hw4]; exact Step.of
            rw [← hw4]
            have HC4 := hide (HC3.out.step (w2 := w4))
            have HT4 := hide (DTs.step (w2 := w4) HC3.out HT3.out)
            clear hw4 q0 q1 q2 lq fq
            obtain ⟨q0, q1, q2⟩ := At.z3 HC4.out.pr.at0
            have lq := HC4.out.pr.lt
            have fq := HC4.out.pr.free
            clear hkd hkd2 hkd3 hkd4 hkd5
            go_upto_region 13 with ((go_at_call 26; go_loud (with_reducible refine (FL.out _ _ HC4.out.pr).mono ?_); rintro e w5 ⟨rfl, hp_, hm_⟩; have HC5 := hide (HC4.out.mv hm_ hp_); clear hp_ hm_))
            obtain ⟨z0, z1, z2, z3, z4, z5⟩ := At.z6 HC5.out.zer.at0
            have lz := HC5.out.zer.lt
            have fz := HC5.out.zer.free
            obtain ⟨c0, c1, c2, c3, c4, c5⟩ := At.z6 HC5.out.blk.at0; have lc := HC5.out.blk.lt; have fc := HC5.out.blk.free
            go_wp2_with fail
            clear z0 z1 z2 z3 z4 z5 c0 c1 c2 c3 c4 c5
            have hF := set6_blk HC5.out.zer (.int .i64 5) (.bool false) (.int .i64 0) (.string ⟨#[]⟩) (.slice A nl c) (.slice AK nk cK)
            obtain ⟨c0, c1, c2, c3, c4, c5⟩ := At.z6 hF.at0
            have hD := dn_bad HC5.out HL.out.1 HL.out.2 hwk1 (by decide)
            obtain ⟨Y, hY⟩ : ∃ Y : World, Y = set6 w5 bb (.int .i64 5) (.bool false) (.int .i64 0) (.string ⟨#[]⟩) (.slice A nl c) (.slice AK nk cK) := ⟨_, rfl⟩
            rw [← hY] at hD c0 c1 c2 c3 c4 c5
            unfold set6 at hY
            rw [← hY]
            clear hY hF
            refine bodyPost_ret (v := .agg #[.int .i64 5, .bool false, .int .i64 0, .string ⟨#[]⟩, .slice A nl c, .slice AK nk cK]) (by simp [results, Tryd.results40, go_sem, c0, c1, c2, c3, c4, c5]) rfl ?_
            exact ⟨by rw [HR.out, HBE.out]; exact hD.1, hD.2⟩
      · have HC := hide hco
        obtain ⟨q0, q1, q2⟩ := At.z3 HC.out.pr.at0; have lq := HC.out.pr.lt; have fq := HC.out.pr.free
        clear hco
        have hec0 : (cd == 0) = false := beq_eq_false_iff_ne.2 (by omega)
        have hcne : cd ≠ 0 := by omega
        have HR : Hid (r = .error cd) := by show _ = _; rw [HRR.out, HN.out]; rfl
        obtain ⟨z0, z1, z2, z3, z4, z5⟩ := At.z6 HC.out.zer.at0
        have lz := HC.out.zer.lt
        have fz := HC.out.zer.free
        obtain ⟨c0, c1, c2, c3, c4, c5⟩ := At.z6 HC.out.blk.at0; have lc := HC.out.blk.lt; have fc := HC.out.blk.free
        go_wp2_with fail
        clear z0 z1 z2 z3 z4 z5 c0 c1 c2 c3 c4 c5
        have hF := set6_blk HC.out.zer (.int .i64 5) (.bool false) (.int .i64 0) (.string ⟨#[]⟩) (.slice A nl c) (.slice AK nk cK)
        obtain ⟨c0, c1, c2, c3, c4, c5⟩ := At.z6 hF.at0
        have hD := dn_bad HC.out HL.out.1 HL.out.2 hk hcne
        obtain ⟨Y, hY⟩ : ∃ Y : World, Y = set6 wo bb (.int .i64 5) (.bool false) (.int .i64 0) (.string ⟨#[]⟩) (.slice A nl c) (.slice AK nk cK) := ⟨_, rfl⟩
        rw [← hY] at hD c0 c1 c2 c3 c4 c5
        unfold set6 at hY
        rw [← hY]
        clear hY hF
        refine bodyPost_ret (v := .agg #[.int .i64 5, .bool false, .int .i64 0, .string ⟨#[]⟩, .slice A nl c, .slice AK nk cK]) (by simp [results, Tryd.results40, go_sem, c0, c1, c2, c3, c4, c5]) rfl ?_
        exact ⟨by rw [HR.out, HBE.out]; exact hD.1, hD.2⟩
end Go.Proofs.YtoibfefalflooaaDoor
