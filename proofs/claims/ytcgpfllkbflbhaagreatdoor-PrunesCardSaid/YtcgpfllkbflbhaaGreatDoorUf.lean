/-
  The document's PruneParts.
-/
import Derived.Test.YtcgpfllkbflbhaaGreatDoorUd
import Derived.Test.YtcgpfllkbflbhaaGreatDoorUe
import Derived.Test.YtcgpfllkbflbhaaGreatDoorTa
namespace Go.Proofs.YtcgpfllkbflbhaaGreatDoor
open Go.RowKit

/-- The last place ahead of m that is taken. -/
def lastTo {α : Type} (p : α → Bool) (l : List α) : Nat → Int
  | 0 => -1
  | m + 1 => match l[m]? with | some x => if p x then (m : Int) else lastTo p l m | none => lastTo p l m
theorem rtruthT (w : World) : Calls Tryz.prog 39 #[.bool true] w fun e w' => e = .returned (.int .i64 1) ∧ w = w' := rtruth_any true w
theorem rtruthF (w : World) : Calls Tryz.prog 39 #[.bool false] w fun e w' => e = .returned (.int .i64 0) ∧ w = w' := rtruth_any false w
theorem lastTo_step {α : Type} {p : α → Bool} {l : List α} {m : Nat} {x : α} (h : l[m]? = some x) : lastTo p l (m + 1) = if p x then (m : Int) else lastTo p l m := by
  rw [lastTo, h]
theorem lastTo_none {α : Type} {p : α → Bool} {l : List α} : ∀ m : Nat, (∀ (i : Nat) (x : α), i < m → l[i]? = some x → p x = false) → lastTo p l m = -1
  | 0, _ => rfl
  | m + 1, h => by
    have ih := lastTo_none m fun i x hi => h i x (by omega)
    rw [lastTo]
    cases hm : l[m]? with
    | none => exact ih
    | some x => simp only [h m x (by omega) hm]; simpa using ih
theorem lastTo_idx {α : Type} {p : α → Bool} {l : List α} (hu : ∀ (i j : Nat) (x y : α), i < j → l[i]? = some x → l[j]? = some y → p x = true → p y = false) : lastTo p l l.length = idx p l := by
  rcases idx_cases p l with h | ⟨j, h, hj⟩
  · rw [h]
    refine lastTo_none _ fun i x _ hx => ?_
    have hn : ¬ l.findIdx p < l.length := fun hl => by rw [idx, if_pos hl] at h; omega
    cases hp : p x with
    | false => rfl
    | true => exact absurd (List.findIdx_lt_length_of_exists ⟨x, List.mem_of_getElem? hx, hp⟩) hn
  · obtain ⟨e, hl⟩ := idx_yes (p := p) (l := l) (by omega)
    have hjf : l.findIdx p = j := by omega
    have hx : l[j]? = some l[j] := List.getElem?_eq_getElem hj
    have hpj : p l[j] = true := by have := List.findIdx_getElem (w := hl); simpa [hjf] using this
    rw [h]
    have key : ∀ m, j < m → m ≤ l.length → lastTo p l m = (j : Int) := by
      intro m
      induction m with
      | zero => intro h; omega
      | succ m ih =>
        intro h1 h2
        have hm : l[m]? = some l[m] := List.getElem?_eq_getElem (by omega)
        rw [lastTo_step hm]
        by_cases e : m = j
        · subst e; rw [if_pos hpj]
        · rw [if_neg (by rw [hu j m _ _ (by omega) hx hm hpj]; decide)]
          exact ih (by omega) (by omega)
    exact key _ hj (Nat.le_refl _)
theorem plain_once {id sid : Int} {fs : List Fld} {s : Sch} (h : specB sid fs s = true) : ∀ (i j : Nat) (x y : Fld), i < j → fs[i]? = some x → fs[j]? = some y → plainOf id x = true → plainOf id y = false := by
  intro i j x y hij hx hy hpx
  cases hpy : plainOf id y with
  | false => rfl
  | true =>
    unfold specB at h
    simp only [Bool.and_eq_true, decide_eq_true_eq] at h
    have hf := fldsUpto_iff.1 h.2.2.2.2 j (List.getElem?_eq_some_iff.1 hy).1 y hy
    unfold fldB at hf
    simp only [Bool.and_eq_true, Bool.not_eq_true'] at hf
    have hany := List.any_eq_false.1 hf.2.2.2 x (List.mem_iff_getElem?.2 ⟨i, by rw [List.getElem?_take, if_pos hij]; exact hx⟩)
    simp only [plainOf, Bool.and_eq_true, beq_iff_eq] at hpx hpy
    simp [sameF, hpx.1, hpx.2, hpy.1, hpy.2] at hany

set_option maxRecDepth 100000 in
set_option maxHeartbeats 32000000 in
theorem rparts_any {w0 w1 w2 w3 : World} (ns : List Nod) (A : Option Addr) (cap : Nat) (s : Sch) (As : Option Addr) (cs : Nat) (sid : Int) (fs : List Fld) (Af : Option Addr) (cf : Nat) (part : List Val) (Av : Option Addr) (cv : Nat) (w : World) (hp : PrIn w0 ns A cap) (hs : SchIn w1 s As cs)
    (hfs : FsIn w2 fs Af cf) (hv : SlAt w3 w3.heap.size 4 Av (part.map Val.cells)) (hvs : ∀ v ∈ part, v.s.size ≤ 9223372036854775807) [f0 : Fut w0 w] [f1 : Fut w1 w] [f2 : Fut w2 w] [f3 : Fut w3 w] :
    Calls Tryz.prog 10 #[.agg #[.slice A ns.length cap], s.val As cs, .agg #[.int .i64 sid, .slice Af fs.length cf], .slice Av part.length cv] w fun e w' => e = .returned (.tuple #[.bool (partsR ns s sid fs part).1, .int .i64 (partsR ns s sid fs part).2]) ∧ Step w w' := by
  obtain ⟨T, hT⟩ : ∃ T, partsR ns s sid fs part = T := ⟨_, rfl⟩
  have HT := hide hT
  rw [hT]
  clear hT
  have z0 := f0.below.size; have z1 := f1.below.size; have z2 := f2.below.size; have z3_ := f3.below.size
  have HVS := hide hvs
  clear hvs
  have hlf := hfs.len; have hls := hs.len
  have pc := fun w' [Fut w0 w'] [Fut w1 w'] => rcheck_any ns A cap s As cs w' hp hs
  have ps := fun w' [Fut w2 w'] [Fut w1 w'] => rspec_any sid fs Af cf s As cs w' hfs hs
  have fdk := fun (nm : ByteArray) w' [Fut w1 w'] => rfind_any s As cs nm w' hs
  unfold Sch.val at pc ps fdk ⊢
  have FDK := hide fdk
  clear fdk
  obtain ⟨W, hW⟩ : ∃ W, W = ((w.alloc (.cells #[.slice A ns.length cap] 24)).alloc (.cells #[.int .i64 s.id, .slice As s.cols.length cs, .int .i64 s.next] 27)).alloc (.cells #[.int .i64 sid, .slice Af fs.length cf] 31) := ⟨_, rfl⟩
  have SW : Step w W := by rw [hW]; exact Step.of
  have HPW : Hid (Blk W w.heap.size 24 [.slice A ns.length cap]) := by rw [hW]; exact ((Blk.new w [.slice A ns.length cap] 24).alloc _).alloc _
  have HSW : Hid (Blk W (w.heap.size + 1) 27 [.int .i64 s.id, .slice As s.cols.length cs, .int .i64 s.next]) := by rw [hW]; exact (Blk.new_at (by simp) [.int .i64 s.id, .slice As s.cols.length cs, .int .i64 s.next] 27).alloc _
  have HFW : Hid (Blk W (w.heap.size + 2) 31 [.int .i64 sid, .slice Af fs.length cf]) := by rw [hW]; exact Blk.new_at (by simp) [.int .i64 sid, .slice Af fs.length cf] 31
  have HW := hide hW
  have hzW := SW.size
  clear hW
  by_cases hc : checkE ns s = 0
  · have CK := hide hc
    rw [hc] at pc
    have PC := hide pc
    clear pc hc
    cases hq : specB sid fs s with
    | false =>
      have hE : Hid (T = (false, 1800)) := by show _ = _; rw [← HT.out, partsR, CK.out, if_neg (by simp), if_neg (by simp [hq])]
      rw [hq] at ps
      have PS := hide ps
      clear ps hq
      go_enter Tryz.func10, Tryz.ntmps10
      go_wp2_with (first | (go_at_call 29; refine (PC.out _).mono ?_; rintro e w3 ⟨rfl, hs3⟩; rw [← HW.out] at hs3; (obtain ⟨t0, t1⟩ := At.z2 (HFW.out.fut (w' := w3)).at0); have lt_ := (HFW.out.fut (w' := w3)).lt; (obtain ⟨q0, q1, q2⟩ := At.z3 (HSW.out.fut (w' := w3)).at0); have lq := (HSW.out.fut (w' := w3)).lt) | (go_at_call 38; refine (PS.out _).mono ?_; rintro e w4 ⟨rfl, hs4⟩; clear t0 t1 lt_ q0 q1 q2 lq; (obtain ⟨t0, t1⟩ := At.z2 (HFW.out.fut (w' := w4)).at0); have lt_ := (HFW.out.fut (w' := w4)).lt))
      go_ret2
      exact ⟨by rw [hE.out]; rfl, Step.of⟩
    | true =>
      rw [hq] at ps
      have PS := hide ps
      have HQ := hide hq
      clear ps hq
      by_cases hl : part.length = fs.length
      · have hE : Hid (T = (walkB (leafPart s fs part) ns, 0)) := by show _ = _; rw [← HT.out, partsR, CK.out, if_neg (by simp), if_pos ⟨HQ.out, hl⟩]
        have el : ((part.length : Int) != (fs.length : Int)) = false := by simp; omega
        have HL := hide hl
        clear hl
        have h24 : ns.length ≤ 24 := (predB_iff.1 (checkE_inv CK.out).1).1
        obtain ⟨OBJ, hmk, hmb⟩ := made_ints ns.length (by omega)
        have HMB := hide hmb
        clear hmb
        go_enter Tryz.func10, Tryz.ntmps10
        go_upto_region 6 with (first | (go_at_call 29; refine (PC.out _).mono ?_; rintro e w3 ⟨rfl, hs3⟩; rw [← HW.out] at hs3; (obtain ⟨t0, t1⟩ := At.z2 (HFW.out.fut (w' := w3)).at0); have lt_ := (HFW.out.fut (w' := w3)).lt; (obtain ⟨q0, q1, q2⟩ := At.z3 (HSW.out.fut (w' := w3)).at0); have lq := (HSW.out.fut (w' := w3)).lt) | (go_at_call 38; refine (PS.out _).mono ?_; rintro e w4 ⟨rfl, hs4⟩; clear t0 t1 lt_ q0 q1 q2 lq; (obtain ⟨t0, t1⟩ := At.z2 (HFW.out.fut (w' := w4)).at0); have lt_ := (HFW.out.fut (w' := w4)).lt))
        clear t0 t1 lt_ el
        have hz4 := hs4.size
        have hz3 := hs3.size
        have p0 := At.z1 (HPW.out.fut (w' := w4)).at0; have lp := (HPW.out.fut (w' := w4)).lt
        obtain ⟨X, hX⟩ : ∃ x : World, x = w4 := ⟨_, rfl⟩
        go_wp2_with fail
        clear p0 lp hmk
        obtain ⟨Y, hY⟩ : ∃ Y, Y = w4.alloc OBJ := ⟨_, rfl⟩
        have hGY : Blk Y w4.heap.size 3 (List.replicate ns.length (.int .i64 0)) := by rw [hY]; exact HMB.out w4
        have SY : Step w4 Y := by rw [hY]; exact Step.of
        rw [← hY]
        clear hY
        obtain ⟨g, hg⟩ : ∃ g, g = w4.heap.size := ⟨_, rfl⟩
        rw [← hg] at hGY
        rw [← hg]
        have NG : Newer X g := ⟨by rw [hX, hg]; exact Nat.le_refl _⟩
        rw [← hX] at hs4 SY
        rw [← hX] at hz4
        clear hg hX
        have HGY := hide hGY
        clear hGY
        go_loopw [12, 13, 14, 15] (fun i _ _ _ wr => ∃ (k : Nat) (L : List Int), k ≤ ns.length ∧ i = .int .i64 k ∧ L.length = ns.length ∧ Laid ns (leafPart s fs part) L k ∧ Blk wr g 3 (L.map fun v => Value.int .i64 v) ∧ Step X wr) (fun i _ _ _ _ => ns.length - (intOf i).toNat)
        case atStart => exact ⟨0, List.replicate ns.length 0, Nat.zero_le _, rfl, by simp, ⟨fun j n h => absurd h (Nat.not_lt_zero _)⟩, by simpa using HGY.out, SY⟩
        case round =>
          obtain ⟨k, L, hk, rfl, hLl, HLK, hblk, hst⟩ := hrel
          have HG := hide hblk; have HLL := hide hLl
          clear hblk hLl HGY
          have hs1 := hst.size
          obtain ⟨wo, rfl⟩ : ∃ x : World, x = wr := ⟨_, rfl⟩
          have p0 := At.z1 (HPW.out.fut (w' := wo)).at0; have lp := (HPW.out.fut (w' := wo)).lt
          by_cases hlt : k < ns.length
          · obtain ⟨b, off, rfl, hb, n, hn, hat⟩ := hp.node (w' := wo) inferInstance hlt
            have hlb : b < wo.heap.size := by omega
            have HN := hide hn; clear hn
            have hkl : (k : Int) < (ns.length : Int) := by omega
            have hk0 : (0 : Int) ≤ (k : Int) := by omega
            obtain ⟨n0, n1, n2, n3, n4, n5, n6, n7, n8⟩ := At.l9 hat
            clear hat
            go_upto_region 11 with (fail)
            obtain ⟨V, hV⟩ : ∃ V, V = wo.alloc (.cells #[.int .i64 n.kind, .string n.col, .int .i64 n.cmp, .int .i64 n.v.kind, .int .i64 n.v.i, .bool n.v.b, .string n.v.s, .int .i64 n.l, .int .i64 n.r] 66) := ⟨_, rfl⟩
            have SV : Step wo V := by rw [hV]; exact Step.of
            have HBB : Hid (Blk V wo.heap.size 66 [.int .i64 n.kind, .string n.col, .int .i64 n.cmp, .int .i64 n.v.kind, .int .i64 n.v.i, .bool n.v.b, .string n.v.s, .int .i64 n.l, .int .i64 n.r]) := by rw [hV]; exact Blk.new wo [.int .i64 n.kind, .string n.col, .int .i64 n.cmp, .int .i64 n.v.kind, .int .i64 n.v.i, .bool n.v.b, .string n.v.s, .int .i64 n.l, .int .i64 n.r] 66
            rw [← hV]
            clear hV n0 n1 n2 n3 n4 n5 n6 n7 n8 hlb p0 lp
            have hzV := SV.size
            obtain ⟨a0, a1, a2, a3, a4, a5, a6, a7, a8⟩ := At.z9 HBB.out.at0; have la := HBB.out.lt
            by_cases h12 : n.kind = 1 ∨ n.kind = 2
            · obtain ⟨j, hi, hj, hfj⟩ := node_col CK.out HN.out h12
              obtain ⟨c, hcj⟩ : ∃ c, s.cols[j]? = some c := ⟨_, List.getElem?_eq_getElem hj⟩
              have HND : Hid (nodId s n = c.id) := by show _ = _; rw [nodId, hfj, List.getD_eq_getElem?_getD, hcj]; rfl
              have fd := FDK.out n.col
              rw [hi] at fd
              have FD := hide fd
              have HCJ := hide hcj
              clear fd hi hfj hcj
              have hj0 : (0 : Int) ≤ (j : Int) := by omega
              have hj1 : (j : Int) < (s.cols.length : Int) := by omega
              obtain ⟨u, hu⟩ : ∃ u, L[k]? = some u := ⟨_, List.getElem?_eq_getElem (by have := HLL.out; omega)⟩
              have HU : Hid ((L.map fun v => Value.int .i64 v)[k]? = some (.int .i64 u)) := by show _ = _; simp [hu]
              clear hu
              have h12' : (n.kind != 1) = false ∨ (n.kind != 1) = true ∧ (n.kind != 2) = false := by rcases h12 with h | h <;> simp [h]
              have HK12 := hide h12
              clear h12
              rcases h12' with e1 | ⟨e1, e2⟩
              all_goals
                go_wp2_with fail
                clear a0 a1 a2 a3 a4 a5 a6 a7 a8 la
                go_loopw [14, 15] (fun kk jj wr => ∃ m : Nat, m ≤ fs.length ∧ jj = .int .i64 m ∧ kk = .int .i64 (lastTo (plainOf c.id) fs m) ∧ Step V wr) (fun _ jj _ => fs.length - (intOf jj).toNat)
                case atStart => exact ⟨0, Nat.zero_le _, rfl, rfl, Step.of⟩
                case round =>
                  obtain ⟨m, hm, rfl, rfl, hstm⟩ := hrel
                  obtain ⟨U, rfl⟩ : ∃ x : World, x = wr := ⟨_, rfl⟩
                  have hzU := hstm.size
                  obtain ⟨t0, t1⟩ := At.z2 (HFW.out.fut (w' := U)).at0; have lt_ := (HFW.out.fut (w' := U)).lt
                  by_cases hmf : m < fs.length
                  · obtain ⟨bf, of_, rfl, hbf, hcf⟩ := hfs.at_.elem (w' := U) inferInstance (k := m) (by simpa using hmf)
                    obtain ⟨f, hfm⟩ : ∃ f, fs[m]? = some f := ⟨_, List.getElem?_eq_getElem hmf⟩
                    obtain ⟨x0, x1, x2⟩ := At.l3 (hcf m f.cells (by simp [hfm]))
                    have hlf_ : bf < U.heap.size := by omega
                    obtain ⟨bc, oc, rfl, hbc, hcc⟩ := hs.at_.elem (w' := U) inferInstance (k := j) (by simpa using hj)
                    obtain ⟨c0, c1, c2⟩ := At.l3 (hcc j c.cells (by simp [HCJ.out]))
                    have hlc : bc < U.heap.size := by omega
                    have HTS := hide (lastTo_step (p := plainOf c.id) hfm)
                    have HPO : Hid (plainOf c.id f = (f.source == c.id && f.trans == 0)) := hide rfl
                    have hm0 : (0 : Int) ≤ (m : Int) := by omega
                    have hm1 : (m : Int) < (fs.length : Int) := by omega
                    clear hcf hfm hcc
                    obtain ⟨q0, q1, q2⟩ := At.z3 (HSW.out.fut (w' := U)).at0; have lq := (HSW.out.fut (w' := U)).lt
                    obtain ⟨a0, a1, a2, a3, a4, a5, a6, a7, a8⟩ := At.z9 (HBB.out.fut (w' := U)).at0; have la := (HBB.out.fut (w' := U)).lt
                    cases y1 : (f.source == c.id)
                    · go_upto_region 16 with (fail)
                      refine wp_region_held_drew (S := (fun w' => Step U w' ∧ (∀ b o, b < U.heap.size → w'.cell? ⟨b, o, none⟩ = U.cell? ⟨b, o, none⟩))) (by kernel_rfl) (by (try dsimp only); (first | exact ⟨hS1, hS2⟩ | exact ⟨Step.of, (bcell (fut _ _)).1⟩)) (fun hHeld => ?_)
                      refine wpAnyH_take (i := 0) (oi := ⟨some 65, _, _, _, _, _⟩) (v := ?_) rfl (by kernel_rfl) (by kernel_rfl) (by kernel_rfl) (fun _ _ _ h => h) (Or.inl ⟨by rfl, ?_⟩) (by assumption) ?_
                      rotate_left
                      · ((intro w hSw); (try dsimp only at hSw); go_simp; (try with_reducible rfl))
                      (try simp only [Act.put, List.setIfInBounds_toArray, List.set_cons_zero, List.set_cons_succ])
                      refine wpAnyH_take (i := 1) (oi := ⟨some 66, _, _, _, _, _⟩) (v := ?_) rfl (by kernel_rfl) (by kernel_rfl) (by kernel_rfl) (fun _ _ _ h => h) (Or.inl ⟨by rfl, ?_⟩) (by assumption) ?_
                      rotate_left
                      · ((intro w hSw); (try dsimp only at hSw); go_simp; (try with_reducible rfl))
                      (try simp only [Act.put, List.setIfInBounds_toArray, List.set_cons_zero, List.set_cons_succ])
                      refine wpAnyH_take (i := 2) (oi := ⟨some 67, _, _, _, _, _⟩) (v := ?_) rfl (by kernel_rfl) (by kernel_rfl) (by kernel_rfl) (fun _ _ _ h => h) (Or.inl ⟨by rfl, ?_⟩) (by assumption) ?_
                      rotate_left
                      · ((intro w hSw); (try dsimp only at hSw); go_simp; (try with_reducible rfl))
                      (try simp only [Act.put, List.setIfInBounds_toArray, List.set_cons_zero, List.set_cons_succ])
                      refine wpAnyH_take (i := 3) (oi := ⟨some 68, _, _, _, _, _⟩) (v := ?_) rfl (by kernel_rfl) (by kernel_rfl) (by kernel_rfl) (fun _ _ _ h => h) (Or.inl ⟨by rfl, ?_⟩) (by assumption) ?_
                      rotate_left
                      · ((intro w hSw); (try dsimp only at hSw); go_simp; (try with_reducible rfl))
                      (try simp only [Act.put, List.setIfInBounds_toArray, List.set_cons_zero, List.set_cons_succ])
                      refine wpAnyH_take (i := 4) (oi := ⟨some 69, _, _, _, _, _⟩) (v := ?_) rfl (by kernel_rfl) (by kernel_rfl) (by kernel_rfl) (fun _ _ _ h => h) (Or.inl ⟨by rfl, ?_⟩) (by assumption) ?_
                      rotate_left
                      · ((intro w hSw); (try dsimp only at hSw); go_simp; (try with_reducible rfl))
                      (try simp only [Act.put, List.setIfInBounds_toArray, List.set_cons_zero, List.set_cons_succ])
                      refine wpAnyH_take (i := 5) (oi := ⟨some 70, _, _, _, _, _⟩) (v := ?_) rfl (by kernel_rfl) (by kernel_rfl) (by kernel_rfl) (fun _ _ _ h => h) (Or.inl ⟨by rfl, ?_⟩) (by assumption) ?_
                      rotate_left
                      · ((intro w hSw); (try dsimp only at hSw); go_simp; (try with_reducible rfl))
                      (try simp only [Act.put, List.setIfInBounds_toArray, List.set_cons_zero, List.set_cons_succ])
                      refine wpAnyH_take (i := 6) (oi := ⟨some 71, _, _, _, _, _⟩) (v := ?_) rfl (by kernel_rfl) (by kernel_rfl) (by kernel_rfl) (fun _ _ _ h => h) (Or.inl ⟨by rfl, ?_⟩) (by assumption) ?_
                      rotate_left
                      · ((intro w hSw); (try dsimp only at hSw); go_simp; (try with_reducible rfl))
                      (try simp only [Act.put, List.setIfInBounds_toArray, List.set_cons_zero, List.set_cons_succ])
                      refine wpAnyH_take (i := 7) (oi := ⟨some 72, _, _, _, _, _⟩) (v := ?_) rfl (by kernel_rfl) (by kernel_rfl) (by kernel_rfl) (fun _ _ _ h => h) (Or.inl ⟨by rfl, ?_⟩) (by assumption) ?_
                      rotate_left
                      · ((intro w hSw); (try dsimp only at hSw); go_simp; (try with_reducible rfl))
                      (try simp only [Act.put, List.setIfInBounds_toArray, List.set_cons_zero, List.set_cons_succ])
                      refine wpAnyH_take (i := 8) (oi := ⟨some 73, _, _, _, _, _⟩) (v := ?_) rfl (by kernel_rfl) (by kernel_rfl) (by kernel_rfl) (fun _ _ _ h => h) (Or.inl ⟨by rfl, ?_⟩) (by assumption) ?_
                      rotate_left
                      · ((intro w hSw); (try dsimp only at hSw); go_simp; (try with_reducible rfl))
                      (try simp only [Act.put, List.setIfInBounds_toArray, List.set_cons_zero, List.set_cons_succ])
                      refine wpAnyH_take (i := 9) (oi := ⟨some 74, _, _, _, _, _⟩) (v := ?_) rfl (by kernel_rfl) (by kernel_rfl) (by kernel_rfl) (fun _ _ _ h => h) (Or.inl ⟨by rfl, ?_⟩) (by assumption) ?_
                      rotate_left
                      · ((intro w hSw); (try dsimp only at hSw); go_simp; (try with_reducible rfl))
                      (try simp only [Act.put, List.setIfInBounds_toArray, List.set_cons_zero, List.set_cons_succ])
                      refine wpAnyH_take (i := 10) (oi := ⟨some 75, _, _, _, _, _⟩) (v := ?_) rfl (by kernel_rfl) (by kernel_rfl) (by kernel_rfl) (fun _ _ _ h => h) (Or.inl ⟨by rfl, ?_⟩) (by assumption) ?_
                      rotate_left
                      · ((intro w hSw); (try dsimp only at hSw); go_simp; (try with_reducible rfl))
                      (try simp only [Act.put, List.setIfInBounds_toArray, List.set_cons_zero, List.set_cons_succ])
                      refine wpAnyH_ready (rs := [11]) (by kernel_rfl) (by simp) ?_
                      refine AllReadyH.cons (o := ⟨some 76, _, _, _, _, _⟩) rfl (fun K hK => ?_) AllReadyH.nil
                      obtain ⟨hS1, hS2⟩ := hHeld
                      go_simp
                      (go_at_call 31; (with_reducible refine (FD.out _).mono ?_); rintro e w6 ⟨rfl, hs6⟩)
                      refine hK.out _ _ (by (try dsimp only); (first | exact ⟨hS1, hS2⟩ | exact ⟨Step.of, (bcell (fut _ _)).1⟩)) (fun hHeld => ?_)
                      clear hK K
                      (try simp only [Act.put, List.setIfInBounds_toArray, List.set_cons_zero, List.set_cons_succ])
                      refine wpAnyH_take (i := 12) (oi := ⟨some 77, _, _, _, _, _⟩) (v := ?_) rfl (by kernel_rfl) (by kernel_rfl) (by kernel_rfl) (fun _ _ _ h => h) (Or.inl ⟨by rfl, ?_⟩) (by assumption) ?_
                      rotate_left
                      · ((intro w hSw); (try dsimp only at hSw); go_simp; (try with_reducible rfl))
                      (try simp only [Act.put, List.setIfInBounds_toArray, List.set_cons_zero, List.set_cons_succ])
                      refine wpAnyH_take (i := 13) (oi := ⟨some 78, _, _, _, _, _⟩) (v := ?_) rfl (by kernel_rfl) (by kernel_rfl) (by kernel_rfl) (fun _ _ _ h => h) (Or.inl ⟨by rfl, ?_⟩) (by assumption) ?_
                      rotate_left
                      · ((intro w hSw); (try dsimp only at hSw); go_simp; (try with_reducible rfl))
                      (try simp only [Act.put, List.setIfInBounds_toArray, List.set_cons_zero, List.set_cons_succ])
                      refine wpAnyH_take (i := 14) (oi := ⟨some 79, _, _, _, _, _⟩) (v := ?_) rfl (by kernel_rfl) (by kernel_rfl) (by kernel_rfl) (fun _ _ _ h => h) (Or.inl ⟨by rfl, ?_⟩) (by assumption) ?_
                      rotate_left
                      · ((intro w hSw); (try dsimp only at hSw); go_simp; (try with_reducible rfl))
                      (try simp only [Act.put, List.setIfInBounds_toArray, List.set_cons_zero, List.set_cons_succ])
                      refine wpAnyH_take (i := 15) (oi := ⟨some 80, _, _, _, _, _⟩) (v := ?_) rfl (by kernel_rfl) (by kernel_rfl) (by kernel_rfl) (fun _ _ _ h => h) (Or.inl ⟨by rfl, ?_⟩) (by assumption) ?_
                      rotate_left
                      · ((intro w hSw); (try dsimp only at hSw); go_simp; (try with_reducible rfl))
                      (try simp only [Act.put, List.setIfInBounds_toArray, List.set_cons_zero, List.set_cons_succ])
                      refine wpAnyH_take (i := 16) (oi := ⟨some 81, _, _, _, _, _⟩) (v := ?_) rfl (by kernel_rfl) (by kernel_rfl) (by kernel_rfl) (fun _ _ _ h => h) (Or.inl ⟨by rfl, ?_⟩) (by assumption) ?_
                      rotate_left
                      · ((intro w hSw); (try dsimp only at hSw); go_simp; (try with_reducible rfl))
                      (try simp only [Act.put, List.setIfInBounds_toArray, List.set_cons_zero, List.set_cons_succ])
                      refine wpAnyH_take (i := 17) (oi := ⟨some 82, _, _, _, _, _⟩) (v := undef) rfl (by kernel_rfl) (by kernel_rfl) (by kernel_rfl) (fun _ _ _ h => h) (Or.inr ⟨by rfl, rfl⟩) (by assumption) ?_
                      (try simp only [Act.put, List.setIfInBounds_toArray, List.set_cons_zero, List.set_cons_succ])
                      refine wpAnyH_take (i := 18) (oi := ⟨some 83, _, _, _, _, _⟩) (v := undef) rfl (by kernel_rfl) (by kernel_rfl) (by kernel_rfl) (fun _ _ _ h => h) (Or.inr ⟨by rfl, rfl⟩) (by assumption) ?_
                      (try simp only [Act.put, List.setIfInBounds_toArray, List.set_cons_zero, List.set_cons_succ])
                      refine wpAnyH_take (i := 19) (oi := ⟨some 84, _, _, _, _, _⟩) (v := undef) rfl (by kernel_rfl) (by kernel_rfl) (by kernel_rfl) (fun _ _ _ h => h) (Or.inr ⟨by rfl, rfl⟩) (by assumption) ?_
                      (try simp only [Act.put, List.setIfInBounds_toArray, List.set_cons_zero, List.set_cons_succ])
                      refine wpAnyH_take (i := 20) (oi := ⟨some 85, _, _, _, _, _⟩) (v := undef) rfl (by kernel_rfl) (by kernel_rfl) (by kernel_rfl) (fun _ _ _ h => h) (Or.inr ⟨by rfl, rfl⟩) (by assumption) ?_
                      (try simp only [Act.put, List.setIfInBounds_toArray, List.set_cons_zero, List.set_cons_succ])
                      refine wpAnyH_take (i := 21) (oi := ⟨some 86, _, _, _, _, _⟩) (v := undef) rfl (by kernel_rfl) (by kernel_rfl) (by kernel_rfl) (fun _ _ _ h => h) (Or.inr ⟨by rfl, rfl⟩) (by assumption) ?_
                      (try simp only [Act.put, List.setIfInBounds_toArray, List.set_cons_zero, List.set_cons_succ])
                      refine wpAnyH_take (i := 22) (oi := ⟨some 87, _, _, _, _, _⟩) (v := undef) rfl (by kernel_rfl) (by kernel_rfl) (by kernel_rfl) (fun _ _ _ h => h) (Or.inr ⟨by rfl, rfl⟩) (by assumption) ?_
                      (try simp only [Act.put, List.setIfInBounds_toArray, List.set_cons_zero, List.set_cons_succ])
                      refine wpAnyH_take (i := 23) (oi := ⟨some 88, _, _, _, _, _⟩) (v := undef) rfl (by kernel_rfl) (by kernel_rfl) (by kernel_rfl) (fun _ _ _ h => h) (Or.inr ⟨by rfl, rfl⟩) (by assumption) ?_
                      (try simp only [Act.put, List.setIfInBounds_toArray, List.set_cons_zero, List.set_cons_succ])
                      refine wpAnyH_take (i := 24) (oi := ⟨some 89, _, _, _, _, _⟩) (v := ?_) rfl (by kernel_rfl) (by kernel_rfl) (by kernel_rfl) (fun _ _ _ h => h) (Or.inl ⟨by rfl, ?_⟩) (by assumption) ?_
                      rotate_left
                      · ((intro w hSw); (try dsimp only at hSw); go_simp; (try with_reducible rfl))
                      (try simp only [Act.put, List.setIfInBounds_toArray, List.set_cons_zero, List.set_cons_succ])
                      refine wpAnyH_done (by kernel_rfl) ?_ _
                      obtain ⟨hS1, hS2⟩ := hHeld
                      go_wp2_with fail
                      go_roundw
                      case rel => exact ⟨m + 1, by omega, by go_num, by rw [HTS.out, HPO.out, y1]; rfl, Step.of⟩
                      case measure => simp [intOf]; omega
                    · cases y2 : (f.trans == 0)
                      all_goals
                        go_upto_region 16 with (fail)
                        refine wp_region_held_drew (S := (fun w' => Step U w' ∧ (∀ b o, b < U.heap.size → w'.cell? ⟨b, o, none⟩ = U.cell? ⟨b, o, none⟩))) (by kernel_rfl) (by (try dsimp only); (first | exact ⟨hS1, hS2⟩ | exact ⟨Step.of, (bcell (fut _ _)).1⟩)) (fun hHeld => ?_)
                        refine wpAnyH_take (i := 0) (oi := ⟨some 65, _, _, _, _, _⟩) (v := ?_) rfl (by kernel_rfl) (by kernel_rfl) (by kernel_rfl) (fun _ _ _ h => h) (Or.inl ⟨by rfl, ?_⟩) (by assumption) ?_
                        rotate_left
                        · ((intro w hSw); (try dsimp only at hSw); go_simp; (try with_reducible rfl))
                        (try simp only [Act.put, List.setIfInBounds_toArray, List.set_cons_zero, List.set_cons_succ])
                        refine wpAnyH_take (i := 1) (oi := ⟨some 66, _, _, _, _, _⟩) (v := ?_) rfl (by kernel_rfl) (by kernel_rfl) (by kernel_rfl) (fun _ _ _ h => h) (Or.inl ⟨by rfl, ?_⟩) (by assumption) ?_
                        rotate_left
                        · ((intro w hSw); (try dsimp only at hSw); go_simp; (try with_reducible rfl))
                        (try simp only [Act.put, List.setIfInBounds_toArray, List.set_cons_zero, List.set_cons_succ])
                        refine wpAnyH_take (i := 2) (oi := ⟨some 67, _, _, _, _, _⟩) (v := ?_) rfl (by kernel_rfl) (by kernel_rfl) (by kernel_rfl) (fun _ _ _ h => h) (Or.inl ⟨by rfl, ?_⟩) (by assumption) ?_
                        rotate_left
                        · ((intro w hSw); (try dsimp only at hSw); go_simp; (try with_reducible rfl))
                        (try simp only [Act.put, List.setIfInBounds_toArray, List.set_cons_zero, List.set_cons_succ])
                        refine wpAnyH_take (i := 3) (oi := ⟨some 68, _, _, _, _, _⟩) (v := ?_) rfl (by kernel_rfl) (by kernel_rfl) (by kernel_rfl) (fun _ _ _ h => h) (Or.inl ⟨by rfl, ?_⟩) (by assumption) ?_
                        rotate_left
                        · ((intro w hSw); (try dsimp only at hSw); go_simp; (try with_reducible rfl))
                        (try simp only [Act.put, List.setIfInBounds_toArray, List.set_cons_zero, List.set_cons_succ])
                        refine wpAnyH_take (i := 4) (oi := ⟨some 69, _, _, _, _, _⟩) (v := ?_) rfl (by kernel_rfl) (by kernel_rfl) (by kernel_rfl) (fun _ _ _ h => h) (Or.inl ⟨by rfl, ?_⟩) (by assumption) ?_
                        rotate_left
                        · ((intro w hSw); (try dsimp only at hSw); go_simp; (try with_reducible rfl))
                        (try simp only [Act.put, List.setIfInBounds_toArray, List.set_cons_zero, List.set_cons_succ])
                        refine wpAnyH_take (i := 5) (oi := ⟨some 70, _, _, _, _, _⟩) (v := ?_) rfl (by kernel_rfl) (by kernel_rfl) (by kernel_rfl) (fun _ _ _ h => h) (Or.inl ⟨by rfl, ?_⟩) (by assumption) ?_
                        rotate_left
                        · ((intro w hSw); (try dsimp only at hSw); go_simp; (try with_reducible rfl))
                        (try simp only [Act.put, List.setIfInBounds_toArray, List.set_cons_zero, List.set_cons_succ])
                        refine wpAnyH_take (i := 6) (oi := ⟨some 71, _, _, _, _, _⟩) (v := ?_) rfl (by kernel_rfl) (by kernel_rfl) (by kernel_rfl) (fun _ _ _ h => h) (Or.inl ⟨by rfl, ?_⟩) (by assumption) ?_
                        rotate_left
                        · ((intro w hSw); (try dsimp only at hSw); go_simp; (try with_reducible rfl))
                        (try simp only [Act.put, List.setIfInBounds_toArray, List.set_cons_zero, List.set_cons_succ])
                        refine wpAnyH_take (i := 7) (oi := ⟨some 72, _, _, _, _, _⟩) (v := ?_) rfl (by kernel_rfl) (by kernel_rfl) (by kernel_rfl) (fun _ _ _ h => h) (Or.inl ⟨by rfl, ?_⟩) (by assumption) ?_
                        rotate_left
                        · ((intro w hSw); (try dsimp only at hSw); go_simp; (try with_reducible rfl))
                        (try simp only [Act.put, List.setIfInBounds_toArray, List.set_cons_zero, List.set_cons_succ])
                        refine wpAnyH_take (i := 8) (oi := ⟨some 73, _, _, _, _, _⟩) (v := ?_) rfl (by kernel_rfl) (by kernel_rfl) (by kernel_rfl) (fun _ _ _ h => h) (Or.inl ⟨by rfl, ?_⟩) (by assumption) ?_
                        rotate_left
                        · ((intro w hSw); (try dsimp only at hSw); go_simp; (try with_reducible rfl))
                        (try simp only [Act.put, List.setIfInBounds_toArray, List.set_cons_zero, List.set_cons_succ])
                        refine wpAnyH_take (i := 9) (oi := ⟨some 74, _, _, _, _, _⟩) (v := ?_) rfl (by kernel_rfl) (by kernel_rfl) (by kernel_rfl) (fun _ _ _ h => h) (Or.inl ⟨by rfl, ?_⟩) (by assumption) ?_
                        rotate_left
                        · ((intro w hSw); (try dsimp only at hSw); go_simp; (try with_reducible rfl))
                        (try simp only [Act.put, List.setIfInBounds_toArray, List.set_cons_zero, List.set_cons_succ])
                        refine wpAnyH_take (i := 10) (oi := ⟨some 75, _, _, _, _, _⟩) (v := ?_) rfl (by kernel_rfl) (by kernel_rfl) (by kernel_rfl) (fun _ _ _ h => h) (Or.inl ⟨by rfl, ?_⟩) (by assumption) ?_
                        rotate_left
                        · ((intro w hSw); (try dsimp only at hSw); go_simp; (try with_reducible rfl))
                        (try simp only [Act.put, List.setIfInBounds_toArray, List.set_cons_zero, List.set_cons_succ])
                        refine wpAnyH_ready (rs := [11]) (by kernel_rfl) (by simp) ?_
                        refine AllReadyH.cons (o := ⟨some 76, _, _, _, _, _⟩) rfl (fun K hK => ?_) AllReadyH.nil
                        obtain ⟨hS1, hS2⟩ := hHeld
                        go_simp
                        (go_at_call 31; (with_reducible refine (FD.out _).mono ?_); rintro e w6 ⟨rfl, hs6⟩)
                        refine hK.out _ _ (by (try dsimp only); (first | exact ⟨hS1, hS2⟩ | exact ⟨Step.of, (bcell (fut _ _)).1⟩)) (fun hHeld => ?_)
                        clear hK K
                        (try simp only [Act.put, List.setIfInBounds_toArray, List.set_cons_zero, List.set_cons_succ])
                        refine wpAnyH_take (i := 12) (oi := ⟨some 77, _, _, _, _, _⟩) (v := ?_) rfl (by kernel_rfl) (by kernel_rfl) (by kernel_rfl) (fun _ _ _ h => h) (Or.inl ⟨by rfl, ?_⟩) (by assumption) ?_
                        rotate_left
                        · ((intro w hSw); (try dsimp only at hSw); go_simp; (try with_reducible rfl))
                        (try simp only [Act.put, List.setIfInBounds_toArray, List.set_cons_zero, List.set_cons_succ])
                        refine wpAnyH_take (i := 13) (oi := ⟨some 78, _, _, _, _, _⟩) (v := ?_) rfl (by kernel_rfl) (by kernel_rfl) (by kernel_rfl) (fun _ _ _ h => h) (Or.inl ⟨by rfl, ?_⟩) (by assumption) ?_
                        rotate_left
                        · ((intro w hSw); (try dsimp only at hSw); go_simp; (try with_reducible rfl))
                        (try simp only [Act.put, List.setIfInBounds_toArray, List.set_cons_zero, List.set_cons_succ])
                        refine wpAnyH_take (i := 14) (oi := ⟨some 79, _, _, _, _, _⟩) (v := ?_) rfl (by kernel_rfl) (by kernel_rfl) (by kernel_rfl) (fun _ _ _ h => h) (Or.inl ⟨by rfl, ?_⟩) (by assumption) ?_
                        rotate_left
                        · ((intro w hSw); (try dsimp only at hSw); go_simp; (try with_reducible rfl))
                        (try simp only [Act.put, List.setIfInBounds_toArray, List.set_cons_zero, List.set_cons_succ])
                        refine wpAnyH_take (i := 15) (oi := ⟨some 80, _, _, _, _, _⟩) (v := ?_) rfl (by kernel_rfl) (by kernel_rfl) (by kernel_rfl) (fun _ _ _ h => h) (Or.inl ⟨by rfl, ?_⟩) (by assumption) ?_
                        rotate_left
                        · ((intro w hSw); (try dsimp only at hSw); go_simp; (try with_reducible rfl))
                        (try simp only [Act.put, List.setIfInBounds_toArray, List.set_cons_zero, List.set_cons_succ])
                        refine wpAnyH_take (i := 16) (oi := ⟨some 81, _, _, _, _, _⟩) (v := ?_) rfl (by kernel_rfl) (by kernel_rfl) (by kernel_rfl) (fun _ _ _ h => h) (Or.inl ⟨by rfl, ?_⟩) (by assumption) ?_
                        rotate_left
                        · ((intro w hSw); (try dsimp only at hSw); go_simp; (try with_reducible rfl))
                        (try simp only [Act.put, List.setIfInBounds_toArray, List.set_cons_zero, List.set_cons_succ])
                        refine wpAnyH_take (i := 17) (oi := ⟨some 82, _, _, _, _, _⟩) (v := ?_) rfl (by kernel_rfl) (by kernel_rfl) (by kernel_rfl) (fun _ _ _ h => h) (Or.inl ⟨by rfl, ?_⟩) (by assumption) ?_
                        rotate_left
                        · ((intro w hSw); (try dsimp only at hSw); go_simp; (try with_reducible rfl))
                        (try simp only [Act.put, List.setIfInBounds_toArray, List.set_cons_zero, List.set_cons_succ])
                        refine wpAnyH_take (i := 18) (oi := ⟨some 83, _, _, _, _, _⟩) (v := ?_) rfl (by kernel_rfl) (by kernel_rfl) (by kernel_rfl) (fun _ _ _ h => h) (Or.inl ⟨by rfl, ?_⟩) (by assumption) ?_
                        rotate_left
                        · ((intro w hSw); (try dsimp only at hSw); go_simp; (try with_reducible rfl))
                        (try simp only [Act.put, List.setIfInBounds_toArray, List.set_cons_zero, List.set_cons_succ])
                        refine wpAnyH_take (i := 19) (oi := ⟨some 84, _, _, _, _, _⟩) (v := ?_) rfl (by kernel_rfl) (by kernel_rfl) (by kernel_rfl) (fun _ _ _ h => h) (Or.inl ⟨by rfl, ?_⟩) (by assumption) ?_
                        rotate_left
                        · ((intro w hSw); (try dsimp only at hSw); go_simp; (try with_reducible rfl))
                        (try simp only [Act.put, List.setIfInBounds_toArray, List.set_cons_zero, List.set_cons_succ])
                        refine wpAnyH_take (i := 20) (oi := ⟨some 85, _, _, _, _, _⟩) (v := ?_) rfl (by kernel_rfl) (by kernel_rfl) (by kernel_rfl) (fun _ _ _ h => h) (Or.inl ⟨by rfl, ?_⟩) (by assumption) ?_
                        rotate_left
                        · ((intro w hSw); (try dsimp only at hSw); go_simp; (try with_reducible rfl))
                        (try simp only [Act.put, List.setIfInBounds_toArray, List.set_cons_zero, List.set_cons_succ])
                        refine wpAnyH_take (i := 21) (oi := ⟨some 86, _, _, _, _, _⟩) (v := ?_) rfl (by kernel_rfl) (by kernel_rfl) (by kernel_rfl) (fun _ _ _ h => h) (Or.inl ⟨by rfl, ?_⟩) (by assumption) ?_
                        rotate_left
                        · ((intro w hSw); (try dsimp only at hSw); go_simp; (try with_reducible rfl))
                        (try simp only [Act.put, List.setIfInBounds_toArray, List.set_cons_zero, List.set_cons_succ])
                        refine wpAnyH_take (i := 22) (oi := ⟨some 87, _, _, _, _, _⟩) (v := ?_) rfl (by kernel_rfl) (by kernel_rfl) (by kernel_rfl) (fun _ _ _ h => h) (Or.inl ⟨by rfl, ?_⟩) (by assumption) ?_
                        rotate_left
                        · ((intro w hSw); (try dsimp only at hSw); go_simp; (try with_reducible rfl))
                        (try simp only [Act.put, List.setIfInBounds_toArray, List.set_cons_zero, List.set_cons_succ])
                        refine wpAnyH_take (i := 23) (oi := ⟨some 88, _, _, _, _, _⟩) (v := ?_) rfl (by kernel_rfl) (by kernel_rfl) (by kernel_rfl) (fun _ _ _ h => h) (Or.inl ⟨by rfl, ?_⟩) (by assumption) ?_
                        rotate_left
                        · ((intro w hSw); (try dsimp only at hSw); go_simp; (try with_reducible rfl))
                        (try simp only [Act.put, List.setIfInBounds_toArray, List.set_cons_zero, List.set_cons_succ])
                        refine wpAnyH_take (i := 24) (oi := ⟨some 89, _, _, _, _, _⟩) (v := ?_) rfl (by kernel_rfl) (by kernel_rfl) (by kernel_rfl) (fun _ _ _ h => h) (Or.inl ⟨by rfl, ?_⟩) (by assumption) ?_
                        rotate_left
                        · ((intro w hSw); (try dsimp only at hSw); go_simp; (try with_reducible rfl))
                        (try simp only [Act.put, List.setIfInBounds_toArray, List.set_cons_zero, List.set_cons_succ])
                        refine wpAnyH_done (by kernel_rfl) ?_ _
                        obtain ⟨hS1, hS2⟩ := hHeld
                        go_wp2_with fail
                        go_roundw
                        case rel => exact ⟨m + 1, by omega, by go_num, by rw [HTS.out, HPO.out, y1, y2]; rfl, Step.of⟩
                        case measure => simp [intOf]; omega
                  · obtain rfl : m = fs.length := by omega
                    rw [lastTo_idx (plain_once HQ.out)]
                    have HNP := hide (HND.out)
                    obtain ⟨a0, a1, a2, a3, a4, a5, a6, a7, a8⟩ := At.z9 (HBB.out.fut (w' := U)).at0; have la := (HBB.out.fut (w' := U)).lt
                    have hG5 := HG.out.fut (w' := U); have g5 : U.cell? ⟨g, k, none⟩ = some (.int .i64 u) := (hG5.at0 k _ HU.out |> fun h => by simpa using h); have fg := hG5.free; have lg := hG5.lt; have HG5 := hide hG5; clear hG5
                    have hgo : g < wo.heap.size := HG.out.lt
                    have hcg : ¬ wo.heap.size = g := by omega
                    have HRT := hide (fun w' => rtruthT w')
                    have HRF := hide (fun w' => rtruthF w')
                    rcases idx_cases (plainOf c.id) fs with hi | ⟨jj, hi, hjj⟩
                    · have HMS := hide (leafPart_miss (s := s) (fs := fs) (part := part) (n := n) (by rw [HND.out]; exact hi))
                      rw [hi]
                      clear hi
                      by_cases hk2 : n.kind = 2
                      · have f2 : (n.kind == 2) = true := by simpa using hk2
                        have HVAL : Hid (leafPart s fs part n = 3) := by show _ = _; rw [HMS.out, if_pos hk2]
                        clear hk2
                        go_wp2_with fail
                        go_roundw
                        case rel =>
                          refine ⟨k + 1, L.set k 3, by omega, by go_num, by simp [HLL.out], ⟨fun i m hik hm hkm => ?_⟩, ?_, Step.of⟩
                          · by_cases e : i = k
                            · subst e
                              rw [HN.out] at hm
                              obtain rfl := Option.some.inj hm
                              rw [HVAL.out, List.getElem?_set_self (by rw [HLL.out]; exact hlt)]
                              rfl
                            · rw [List.getElem?_set_ne (Ne.symm e)]
                              exact HLK.at_ i m (by omega) hm hkm
                          · rw [List.map_set]
                            exact (HG.out.fut (w' := U)).set_ k _
                        case measure => simp [intOf]; omega
                      · have f2 : (n.kind == 2) = false := by simpa using hk2
                        have HVAL : Hid (leafPart s fs part n = 7) := by show _ = _; rw [HMS.out, if_neg hk2]
                        clear hk2
                        go_wp2_with fail
                        go_roundw
                        case rel =>
                          refine ⟨k + 1, L.set k 7, by omega, by go_num, by simp [HLL.out], ⟨fun i m hik hm hkm => ?_⟩, ?_, Step.of⟩
                          · by_cases e : i = k
                            · subst e
                              rw [HN.out] at hm
                              obtain rfl := Option.some.inj hm
                              rw [HVAL.out, List.getElem?_set_self (by rw [HLL.out]; exact hlt)]
                              rfl
                            · rw [List.getElem?_set_ne (Ne.symm e)]
                              exact HLK.at_ i m (by omega) hm hkm
                          · rw [List.map_set]
                            exact (HG.out.fut (w' := U)).set_ k _
                        case measure => simp [intOf]; omega
                    · have hjp : jj < part.length := by have := HL.out; omega
                      obtain ⟨v, hvj⟩ : ∃ v, part[jj]? = some v := ⟨_, List.getElem?_eq_getElem hjp⟩
                      have HHT := hide (leafPart_hit (s := s) (fs := fs) (part := part) (n := n) (by rw [HND.out]; exact hi) hvj)
                      obtain ⟨bv, ov, rfl, hbv, hcv⟩ := hv.elem (w' := U) inferInstance (k := jj) (by simpa using hjp)
                      have HAV := hide (hcv jj v.cells (by simp [hvj]))
                      obtain ⟨s0, s1, s2, s3⟩ := At.l4 HAV.out
                      have hlv : bv < U.heap.size := by omega
                      have hbvX : bv < X.heap.size := by omega
                      have hvz := HVS.out v (List.mem_of_getElem? hvj)
                      have hxz := (hp.strs n (List.mem_of_getElem? HN.out)).2
                      have HNV := hide (fun w' => vnull_any v w')
                      unfold Val.val at HNV
                      rw [hi]
                      clear hi hcv hvj
                      have hjj0 : (0 : Int) ≤ (jj : Int) := by omega
                      have hjjn : ¬ (jj : Int) < 0 := by omega
                      have hjj1 : (jj : Int) < (part.length : Int) := by omega
                      by_cases hk2 : n.kind = 2
                      · have f2 : (n.kind == 2) = true := by simpa using hk2
                        have HLT : Hid (leafT n v = truthI (nullB v)) := by show _ = _; unfold leafT; rw [if_neg (by omega), if_pos hk2]; rfl
                        cases hnb : nullB v with
                        | true =>
                          have HVAL : Hid (leafPart s fs part n = 2) := by show _ = _; rw [HHT.out, HLT.out, hnb]; rfl
                          rw [hnb] at HNV
                          clear hnb hk2
                          go_wp2_with (first | (go_at_call 40; refine (HNV.out _).mono ?_; rintro e w7 ⟨rfl, hs7⟩; clear g5 fg lg HG5; have hG5 := HG.out.fut (w' := w7); have g5 : w7.cell? ⟨g, k, none⟩ = some (.int .i64 u) := (hG5.at0 k _ HU.out |> fun h => by simpa using h); have fg := hG5.free; have lg := hG5.lt; have HG5 := hide hG5; clear hG5) | (go_at_call 39; refine (HRT.out _).mono ?_; rintro e w' ⟨rfl, rfl⟩))
                          go_roundw
                          case rel =>
                            refine ⟨k + 1, L.set k 2, by omega, by go_num, by simp [HLL.out], ⟨fun i m hik hm hkm => ?_⟩, ?_, Step.of⟩
                            · by_cases e : i = k
                              · subst e
                                rw [HN.out] at hm
                                obtain rfl := Option.some.inj hm
                                rw [HVAL.out, List.getElem?_set_self (by rw [HLL.out]; exact hlt)]
                                rfl
                              · rw [List.getElem?_set_ne (Ne.symm e)]
                                exact HLK.at_ i m (by omega) hm hkm
                            · rw [List.map_set]
                              exact (HG.out.fut (w' := w7)).set_ k _
                          case measure => simp [intOf]; omega
                        | false =>
                          have HVAL : Hid (leafPart s fs part n = 1) := by show _ = _; rw [HHT.out, HLT.out, hnb]; rfl
                          rw [hnb] at HNV
                          clear hnb hk2
                          go_wp2_with (first | (go_at_call 40; refine (HNV.out _).mono ?_; rintro e w7 ⟨rfl, hs7⟩; clear g5 fg lg HG5; have hG5 := HG.out.fut (w' := w7); have g5 : w7.cell? ⟨g, k, none⟩ = some (.int .i64 u) := (hG5.at0 k _ HU.out |> fun h => by simpa using h); have fg := hG5.free; have lg := hG5.lt; have HG5 := hide hG5; clear hG5) | (go_at_call 39; refine (HRF.out _).mono ?_; rintro e w' ⟨rfl, rfl⟩))
                          go_roundw
                          case rel =>
                            refine ⟨k + 1, L.set k 1, by omega, by go_num, by simp [HLL.out], ⟨fun i m hik hm hkm => ?_⟩, ?_, Step.of⟩
                            · by_cases e : i = k
                              · subst e
                                rw [HN.out] at hm
                                obtain rfl := Option.some.inj hm
                                rw [HVAL.out, List.getElem?_set_self (by rw [HLL.out]; exact hlt)]
                                rfl
                              · rw [List.getElem?_set_ne (Ne.symm e)]
                                exact HLK.at_ i m (by omega) hm hkm
                            · rw [List.map_set]
                              exact (HG.out.fut (w' := w7)).set_ k _
                          case measure => simp [intOf]; omega
                      · have f2 : (n.kind == 2) = false := by simpa using hk2
                        have hk1 : n.kind = 1 := by have := HK12.out; omega
                        cases hnb : nullB v with
                        | true =>
                          have hkv : kindV v = 0 := by simpa [nullB] using hnb
                          have HVAL : Hid (leafPart s fs part n = 4) := by
                            show _ = _
                            have e : leafT n v = 2 := by unfold leafT; rw [if_neg (by omega), if_neg (by omega), if_pos hkv]
                            rw [HHT.out, e]; rfl
                          rw [hnb] at HNV
                          clear hnb hk2 hk1 hkv
                          go_wp2_with (go_at_call 40; refine (HNV.out _).mono ?_; rintro e w7 ⟨rfl, hs7⟩; clear g5 fg lg HG5; have hG5 := HG.out.fut (w' := w7); have g5 : w7.cell? ⟨g, k, none⟩ = some (.int .i64 u) := (hG5.at0 k _ HU.out |> fun h => by simpa using h); have fg := hG5.free; have lg := hG5.lt; have HG5 := hide hG5; clear hG5)
                          go_roundw
                          case rel =>
                            refine ⟨k + 1, L.set k 4, by omega, by go_num, by simp [HLL.out], ⟨fun i m hik hm hkm => ?_⟩, ?_, Step.of⟩
                            · by_cases e : i = k
                              · subst e
                                rw [HN.out] at hm
                                obtain rfl := Option.some.inj hm
                                rw [HVAL.out, List.getElem?_set_self (by rw [HLL.out]; exact hlt)]
                                rfl
                              · rw [List.getElem?_set_ne (Ne.symm e)]
                                exact HLK.at_ i m (by omega) hm hkm
                            · rw [List.map_set]
                              exact (HG.out.fut (w' := w7)).set_ k _
                          case measure => simp [intOf]; omega
                        | false =>
                          have hkv : ¬ kindV v = 0 := by simpa [nullB] using hnb
                          have HLT : Hid (leafT n v = truthI (standR n.cmp (cmpV v n.v))) := by
                            show _ = _
                            unfold leafT; rw [if_neg (by omega), if_neg (by omega), if_neg hkv, standR_cmp]
                          have CM := hide (fun w' => rcmp_any v n.v w' hvz hxz)
                          unfold Val.val at CM
                          obtain ⟨d, hd⟩ : ∃ d, cmpV v n.v = d := ⟨_, rfl⟩
                          rw [hd] at CM HLT
                          obtain ⟨rr, hrr⟩ : ∃ rr, standR n.cmp d = rr := ⟨_, rfl⟩
                          have RSD0 := fun w' => rstands_any n.cmp d w'
                          rw [hrr] at RSD0 HLT
                          have RSD := hide RSD0
                          rw [hnb] at HNV
                          clear hnb hk2 hk1 hkv hd hrr RSD0
                          go_upto_region 18 with (go_at_call 40; refine (HNV.out _).mono ?_; rintro e w7 ⟨rfl, hs7⟩; clear g5 fg lg HG5; have hG5 := HG.out.fut (w' := w7); have g5 : w7.cell? ⟨g, k, none⟩ = some (.int .i64 u) := (hG5.at0 k _ HU.out |> fun h => by simpa using h); have fg := hG5.free; have lg := hG5.lt; have HG5 := hide hG5; clear hG5)
                          clear g5 fg lg HG5 a0 a1 a2 a3 a4 a5 a6 a7 a8 la s0 s1 s2 s3 hlv t0 t1 lt_
                          obtain ⟨M, rfl⟩ : ∃ x : World, x = w7 := ⟨_, rfl⟩
                          have hz7 := hs7.size
                          obtain ⟨a0, a1, a2, a3, a4, a5, a6, a7, a8⟩ := At.z9 (HBB.out.fut (w' := M)).at0; have la := (HBB.out.fut (w' := M)).lt
                          obtain ⟨s0, s1, s2, s3⟩ := At.l4 (HAV.out.below (fut U M) (by omega))
                          have hlv : bv < M.heap.size := by omega
                          have hbg : ¬ bv = g := by have := NG.le; omega
                          have hG5 := HG.out.fut (w' := M); have g5 : M.cell? ⟨g, k, none⟩ = some (.int .i64 u) := (hG5.at0 k _ HU.out |> fun h => by simpa using h); have fg := hG5.free; have lg := hG5.lt; have HG5 := hide hG5; clear hG5
                          cases rr
                          · have HVAL : Hid (leafPart s fs part n = 1) := by show _ = _; rw [HHT.out, HLT.out]; rfl
                            refine wp_region_held_drew (S := (fun w' => Step X w' ∧ (∀ b o, ¬ b = g → b < M.heap.size → w'.cell? ⟨b, o, none⟩ = M.cell? ⟨b, o, none⟩))) (by kernel_rfl) (by (try dsimp only); (first | exact ⟨hS1, hS2⟩ | exact ⟨Step.of, fun b o _ h => (fut M _).cell (p := ⟨b, o, none⟩) h⟩)) (fun hHeld => ?_)
                            refine wpAnyH_take (i := 0) (oi := ⟨some 91, _, _, _, _, _⟩) (v := ?_) rfl (by kernel_rfl) (by kernel_rfl) (by kernel_rfl) (fun _ _ _ h => h) (Or.inl ⟨by rfl, ?_⟩) (by assumption) ?_
                            rotate_left
                            · ((intro w hSw); (try dsimp only at hSw); go_simp; (try with_reducible rfl))
                            (try simp only [Act.put, List.setIfInBounds_toArray, List.set_cons_zero, List.set_cons_succ])
                            refine wpAnyH_take (i := 1) (oi := ⟨some 92, _, _, _, _, _⟩) (v := ?_) rfl (by kernel_rfl) (by kernel_rfl) (by kernel_rfl) (fun _ _ _ h => h) (Or.inl ⟨by rfl, ?_⟩) (by assumption) ?_
                            rotate_left
                            · ((intro w hSw); (try dsimp only at hSw); go_simp; (try with_reducible rfl))
                            (try simp only [Act.put, List.setIfInBounds_toArray, List.set_cons_zero, List.set_cons_succ])
                            refine wpAnyH_take (i := 2) (oi := ⟨some 93, _, _, _, _, _⟩) (v := ?_) rfl (by kernel_rfl) (by kernel_rfl) (by kernel_rfl) (fun _ _ _ h => h) (Or.inl ⟨by rfl, ?_⟩) (by assumption) ?_
                            rotate_left
                            · ((intro w hSw); (try dsimp only at hSw); go_simp; (try with_reducible rfl))
                            (try simp only [Act.put, List.setIfInBounds_toArray, List.set_cons_zero, List.set_cons_succ])
                            refine wpAnyH_take (i := 3) (oi := ⟨some 94, _, _, _, _, _⟩) (v := ?_) rfl (by kernel_rfl) (by kernel_rfl) (by kernel_rfl) (fun _ _ _ h => h) (Or.inl ⟨by rfl, ?_⟩) (by assumption) ?_
                            rotate_left
                            · ((intro w hSw); (try dsimp only at hSw); go_simp; (try with_reducible rfl))
                            (try simp only [Act.put, List.setIfInBounds_toArray, List.set_cons_zero, List.set_cons_succ])
                            refine wpAnyH_take (i := 4) (oi := ⟨some 95, _, _, _, _, _⟩) (v := ?_) rfl (by kernel_rfl) (by kernel_rfl) (by kernel_rfl) (fun _ _ _ h => h) (Or.inl ⟨by rfl, ?_⟩) (by assumption) ?_
                            rotate_left
                            · ((intro w hSw); (try dsimp only at hSw); go_simp; (try with_reducible rfl))
                            (try simp only [Act.put, List.setIfInBounds_toArray, List.set_cons_zero, List.set_cons_succ])
                            refine wpAnyH_take (i := 5) (oi := ⟨some 96, _, _, _, _, _⟩) (v := ?_) rfl (by kernel_rfl) (by kernel_rfl) (by kernel_rfl) (fun _ _ _ h => h) (Or.inl ⟨by rfl, ?_⟩) (by assumption) ?_
                            rotate_left
                            · ((intro w hSw); (try dsimp only at hSw); go_simp; (try with_reducible rfl))
                            (try simp only [Act.put, List.setIfInBounds_toArray, List.set_cons_zero, List.set_cons_succ])
                            refine wpAnyH_take (i := 6) (oi := ⟨some 97, _, _, _, _, _⟩) (v := ?_) rfl (by kernel_rfl) (by kernel_rfl) (by kernel_rfl) (fun _ _ _ h => h) (Or.inl ⟨by rfl, ?_⟩) (by assumption) ?_
                            rotate_left
                            · ((intro w hSw); (try dsimp only at hSw); go_simp; (try with_reducible rfl))
                            (try simp only [Act.put, List.setIfInBounds_toArray, List.set_cons_zero, List.set_cons_succ])
                            refine wpAnyH_take (i := 7) (oi := ⟨some 98, _, _, _, _, _⟩) (v := ?_) rfl (by kernel_rfl) (by kernel_rfl) (by kernel_rfl) (fun _ _ _ h => h) (Or.inl ⟨by rfl, ?_⟩) (by assumption) ?_
                            rotate_left
                            · ((intro w hSw); (try dsimp only at hSw); go_simp; (try with_reducible rfl))
                            (try simp only [Act.put, List.setIfInBounds_toArray, List.set_cons_zero, List.set_cons_succ])
                            refine wpAnyH_take (i := 8) (oi := ⟨some 99, _, _, _, _, _⟩) (v := ?_) rfl (by kernel_rfl) (by kernel_rfl) (by kernel_rfl) (fun _ _ _ h => h) (Or.inl ⟨by rfl, ?_⟩) (by assumption) ?_
                            rotate_left
                            · ((intro w hSw); (try dsimp only at hSw); go_simp; (try with_reducible rfl))
                            (try simp only [Act.put, List.setIfInBounds_toArray, List.set_cons_zero, List.set_cons_succ])
                            refine wpAnyH_take (i := 9) (oi := ⟨some 100, _, _, _, _, _⟩) (v := ?_) rfl (by kernel_rfl) (by kernel_rfl) (by kernel_rfl) (fun _ _ _ h => h) (Or.inl ⟨by rfl, ?_⟩) (by assumption) ?_
                            rotate_left
                            · ((intro w hSw); (try dsimp only at hSw); go_simp; (try with_reducible rfl))
                            (try simp only [Act.put, List.setIfInBounds_toArray, List.set_cons_zero, List.set_cons_succ])
                            refine wpAnyH_ready (rs := [10]) (by kernel_rfl) (by simp) ?_
                            refine AllReadyH.cons (o := ⟨some 101, _, _, _, _, _⟩) rfl (fun K hK => ?_) AllReadyH.nil
                            obtain ⟨hS1, hS2⟩ := hHeld
                            go_simp
                            (go_at_call 42; (with_reducible refine (CM.out _).mono ?_); rintro e w8 ⟨rfl, hs8⟩; clear g5 fg lg HG5; have hG5 := HG.out.fut (w' := w8); have g5 : w8.cell? ⟨g, k, none⟩ = some (.int .i64 u) := (hG5.at0 k _ HU.out |> fun h => by simpa using h); have fg := hG5.free; have lg := hG5.lt; have HG5 := hide hG5; clear hG5)
                            refine hK.out _ _ (by (try dsimp only); (first | exact ⟨hS1, hS2⟩ | exact ⟨Step.of, fun b o _ h => (fut M _).cell (p := ⟨b, o, none⟩) h⟩)) (fun hHeld => ?_)
                            clear hK K
                            (try simp only [Act.put, List.setIfInBounds_toArray, List.set_cons_zero, List.set_cons_succ])
                            refine wpAnyH_ready (rs := [11]) (by kernel_rfl) (by simp) ?_
                            refine AllReadyH.cons (o := ⟨some 102, _, _, _, _, _⟩) rfl (fun K hK => ?_) AllReadyH.nil
                            obtain ⟨hS1, hS2⟩ := hHeld
                            go_simp
                            (go_at_call 41; (with_reducible refine (RSD.out _).mono ?_); rintro e w' ⟨rfl, rfl⟩)
                            refine hK.out _ _ (by (try dsimp only); (first | exact ⟨hS1, hS2⟩ | exact ⟨Step.of, fun b o _ h => (fut M _).cell (p := ⟨b, o, none⟩) h⟩)) (fun hHeld => ?_)
                            clear hK K
                            (try simp only [Act.put, List.setIfInBounds_toArray, List.set_cons_zero, List.set_cons_succ])
                            refine wpAnyH_ready (rs := [12]) (by kernel_rfl) (by simp) ?_
                            refine AllReadyH.cons (o := ⟨some 103, _, _, _, _, _⟩) rfl (fun K hK => ?_) AllReadyH.nil
                            obtain ⟨hS1, hS2⟩ := hHeld
                            go_simp
                            (go_at_call 39; (with_reducible refine (HRF.out _).mono ?_); rintro e w' ⟨rfl, rfl⟩)
                            refine hK.out _ _ (by (try dsimp only); (first | exact ⟨hS1, hS2⟩ | exact ⟨Step.of, fun b o _ h => (fut M _).cell (p := ⟨b, o, none⟩) h⟩)) (fun hHeld => ?_)
                            clear hK K
                            (try simp only [Act.put, List.setIfInBounds_toArray, List.set_cons_zero, List.set_cons_succ])
                            refine wpAnyH_take (i := 13) (oi := ⟨some 104, _, _, _, _, _⟩) (v := ?_) rfl (by kernel_rfl) (by kernel_rfl) (by kernel_rfl) (fun _ _ _ h => h) (Or.inl ⟨by rfl, ?_⟩) (by assumption) ?_
                            rotate_left
                            · ((intro w hSw); (try dsimp only at hSw); go_simp; (try with_reducible rfl))
                            (try simp only [Act.put, List.setIfInBounds_toArray, List.set_cons_zero, List.set_cons_succ])
                            refine wpAnyH_take (i := 14) (oi := ⟨some 105, _, _, _, _, _⟩) (v := ?_) rfl (by kernel_rfl) (by kernel_rfl) (by kernel_rfl) (fun _ _ _ h => h) (Or.inl ⟨by rfl, ?_⟩) (by assumption) ?_
                            rotate_left
                            · ((intro w hSw); (try dsimp only at hSw); go_simp; (try with_reducible rfl))
                            (try simp only [Act.put, List.setIfInBounds_toArray, List.set_cons_zero, List.set_cons_succ])
                            refine wpAnyH_ready (rs := [15]) (by kernel_rfl) (by simp) ?_
                            refine AllReadyH.cons (o := ⟨none, _, _, _, _, _⟩) rfl (fun K hK => ?_) AllReadyH.nil
                            go_simp
                            refine hK.out _ _ (by (try dsimp only); (exact ⟨Step.of, fun b o hne h => (World.cell?_of_block (w := w8) (Below.heap_setCell w8 _ _ b hne)).trans ((fut M w8).cell (p := ⟨b, o, none⟩) h)⟩)) (fun hHeld => ?_)
                            clear hK K
                            (try simp only [Act.put, List.setIfInBounds_toArray, List.set_cons_zero, List.set_cons_succ])
                            refine wpAnyH_done (by kernel_rfl) ?_ _
                            obtain ⟨hS1, hS2⟩ := hHeld
                            go_wp2_with fail
                            go_roundw
                            case rel =>
                              refine ⟨k + 1, L.set k 1, by omega, by go_num, by simp [HLL.out], ⟨fun i m hik hm hkm => ?_⟩, ?_, Step.of⟩
                              · by_cases e : i = k
                                · subst e
                                  rw [HN.out] at hm
                                  obtain rfl := Option.some.inj hm
                                  rw [HVAL.out, List.getElem?_set_self (by rw [HLL.out]; exact hlt)]
                                  rfl
                                · rw [List.getElem?_set_ne (Ne.symm e)]
                                  exact HLK.at_ i m (by omega) hm hkm
                              · rw [List.map_set]
                                exact (HG.out.fut (w' := w8)).set_ k _
                            case measure => simp [intOf]; omega
                          · have HVAL : Hid (leafPart s fs part n = 2) := by show _ = _; rw [HHT.out, HLT.out]; rfl
                            refine wp_region_held_drew (S := (fun w' => Step X w' ∧ (∀ b o, ¬ b = g → b < M.heap.size → w'.cell? ⟨b, o, none⟩ = M.cell? ⟨b, o, none⟩))) (by kernel_rfl) (by (try dsimp only); (first | exact ⟨hS1, hS2⟩ | exact ⟨Step.of, fun b o _ h => (fut M _).cell (p := ⟨b, o, none⟩) h⟩)) (fun hHeld => ?_)
                            refine wpAnyH_take (i := 0) (oi := ⟨some 91, _, _, _, _, _⟩) (v := ?_) rfl (by kernel_rfl) (by kernel_rfl) (by kernel_rfl) (fun _ _ _ h => h) (Or.inl ⟨by rfl, ?_⟩) (by assumption) ?_
                            rotate_left
                            · ((intro w hSw); (try dsimp only at hSw); go_simp; (try with_reducible rfl))
                            (try simp only [Act.put, List.setIfInBounds_toArray, List.set_cons_zero, List.set_cons_succ])
                            refine wpAnyH_take (i := 1) (oi := ⟨some 92, _, _, _, _, _⟩) (v := ?_) rfl (by kernel_rfl) (by kernel_rfl) (by kernel_rfl) (fun _ _ _ h => h) (Or.inl ⟨by rfl, ?_⟩) (by assumption) ?_
                            rotate_left
                            · ((intro w hSw); (try dsimp only at hSw); go_simp; (try with_reducible rfl))
                            (try simp only [Act.put, List.setIfInBounds_toArray, List.set_cons_zero, List.set_cons_succ])
                            refine wpAnyH_take (i := 2) (oi := ⟨some 93, _, _, _, _, _⟩) (v := ?_) rfl (by kernel_rfl) (by kernel_rfl) (by kernel_rfl) (fun _ _ _ h => h) (Or.inl ⟨by rfl, ?_⟩) (by assumption) ?_
                            rotate_left
                            · ((intro w hSw); (try dsimp only at hSw); go_simp; (try with_reducible rfl))
                            (try simp only [Act.put, List.setIfInBounds_toArray, List.set_cons_zero, List.set_cons_succ])
                            refine wpAnyH_take (i := 3) (oi := ⟨some 94, _, _, _, _, _⟩) (v := ?_) rfl (by kernel_rfl) (by kernel_rfl) (by kernel_rfl) (fun _ _ _ h => h) (Or.inl ⟨by rfl, ?_⟩) (by assumption) ?_
                            rotate_left
                            · ((intro w hSw); (try dsimp only at hSw); go_simp; (try with_reducible rfl))
                            (try simp only [Act.put, List.setIfInBounds_toArray, List.set_cons_zero, List.set_cons_succ])
                            refine wpAnyH_take (i := 4) (oi := ⟨some 95, _, _, _, _, _⟩) (v := ?_) rfl (by kernel_rfl) (by kernel_rfl) (by kernel_rfl) (fun _ _ _ h => h) (Or.inl ⟨by rfl, ?_⟩) (by assumption) ?_
                            rotate_left
                            · ((intro w hSw); (try dsimp only at hSw); go_simp; (try with_reducible rfl))
                            (try simp only [Act.put, List.setIfInBounds_toArray, List.set_cons_zero, List.set_cons_succ])
                            refine wpAnyH_take (i := 5) (oi := ⟨some 96, _, _, _, _, _⟩) (v := ?_) rfl (by kernel_rfl) (by kernel_rfl) (by kernel_rfl) (fun _ _ _ h => h) (Or.inl ⟨by rfl, ?_⟩) (by assumption) ?_
                            rotate_left
                            · ((intro w hSw); (try dsimp only at hSw); go_simp; (try with_reducible rfl))
                            (try simp only [Act.put, List.setIfInBounds_toArray, List.set_cons_zero, List.set_cons_succ])
                            refine wpAnyH_take (i := 6) (oi := ⟨some 97, _, _, _, _, _⟩) (v := ?_) rfl (by kernel_rfl) (by kernel_rfl) (by kernel_rfl) (fun _ _ _ h => h) (Or.inl ⟨by rfl, ?_⟩) (by assumption) ?_
                            rotate_left
                            · ((intro w hSw); (try dsimp only at hSw); go_simp; (try with_reducible rfl))
                            (try simp only [Act.put, List.setIfInBounds_toArray, List.set_cons_zero, List.set_cons_succ])
                            refine wpAnyH_take (i := 7) (oi := ⟨some 98, _, _, _, _, _⟩) (v := ?_) rfl (by kernel_rfl) (by kernel_rfl) (by kernel_rfl) (fun _ _ _ h => h) (Or.inl ⟨by rfl, ?_⟩) (by assumption) ?_
                            rotate_left
                            · ((intro w hSw); (try dsimp only at hSw); go_simp; (try with_reducible rfl))
                            (try simp only [Act.put, List.setIfInBounds_toArray, List.set_cons_zero, List.set_cons_succ])
                            refine wpAnyH_take (i := 8) (oi := ⟨some 99, _, _, _, _, _⟩) (v := ?_) rfl (by kernel_rfl) (by kernel_rfl) (by kernel_rfl) (fun _ _ _ h => h) (Or.inl ⟨by rfl, ?_⟩) (by assumption) ?_
                            rotate_left
                            · ((intro w hSw); (try dsimp only at hSw); go_simp; (try with_reducible rfl))
                            (try simp only [Act.put, List.setIfInBounds_toArray, List.set_cons_zero, List.set_cons_succ])
                            refine wpAnyH_take (i := 9) (oi := ⟨some 100, _, _, _, _, _⟩) (v := ?_) rfl (by kernel_rfl) (by kernel_rfl) (by kernel_rfl) (fun _ _ _ h => h) (Or.inl ⟨by rfl, ?_⟩) (by assumption) ?_
                            rotate_left
                            · ((intro w hSw); (try dsimp only at hSw); go_simp; (try with_reducible rfl))
                            (try simp only [Act.put, List.setIfInBounds_toArray, List.set_cons_zero, List.set_cons_succ])
                            refine wpAnyH_ready (rs := [10]) (by kernel_rfl) (by simp) ?_
                            refine AllReadyH.cons (o := ⟨some 101, _, _, _, _, _⟩) rfl (fun K hK => ?_) AllReadyH.nil
                            obtain ⟨hS1, hS2⟩ := hHeld
                            go_simp
                            (go_at_call 42; (with_reducible refine (CM.out _).mono ?_); rintro e w8 ⟨rfl, hs8⟩; clear g5 fg lg HG5; have hG5 := HG.out.fut (w' := w8); have g5 : w8.cell? ⟨g, k, none⟩ = some (.int .i64 u) := (hG5.at0 k _ HU.out |> fun h => by simpa using h); have fg := hG5.free; have lg := hG5.lt; have HG5 := hide hG5; clear hG5)
                            refine hK.out _ _ (by (try dsimp only); (first | exact ⟨hS1, hS2⟩ | exact ⟨Step.of, fun b o _ h => (fut M _).cell (p := ⟨b, o, none⟩) h⟩)) (fun hHeld => ?_)
                            clear hK K
                            (try simp only [Act.put, List.setIfInBounds_toArray, List.set_cons_zero, List.set_cons_succ])
                            refine wpAnyH_ready (rs := [11]) (by kernel_rfl) (by simp) ?_
                            refine AllReadyH.cons (o := ⟨some 102, _, _, _, _, _⟩) rfl (fun K hK => ?_) AllReadyH.nil
                            obtain ⟨hS1, hS2⟩ := hHeld
                            go_simp
                            (go_at_call 41; (with_reducible refine (RSD.out _).mono ?_); rintro e w' ⟨rfl, rfl⟩)
                            refine hK.out _ _ (by (try dsimp only); (first | exact ⟨hS1, hS2⟩ | exact ⟨Step.of, fun b o _ h => (fut M _).cell (p := ⟨b, o, none⟩) h⟩)) (fun hHeld => ?_)
                            clear hK K
                            (try simp only [Act.put, List.setIfInBounds_toArray, List.set_cons_zero, List.set_cons_succ])
                            refine wpAnyH_ready (rs := [12]) (by kernel_rfl) (by simp) ?_
                            refine AllReadyH.cons (o := ⟨some 103, _, _, _, _, _⟩) rfl (fun K hK => ?_) AllReadyH.nil
                            obtain ⟨hS1, hS2⟩ := hHeld
                            go_simp
                            (go_at_call 39; (with_reducible refine (HRT.out _).mono ?_); rintro e w' ⟨rfl, rfl⟩)
                            refine hK.out _ _ (by (try dsimp only); (first | exact ⟨hS1, hS2⟩ | exact ⟨Step.of, fun b o _ h => (fut M _).cell (p := ⟨b, o, none⟩) h⟩)) (fun hHeld => ?_)
                            clear hK K
                            (try simp only [Act.put, List.setIfInBounds_toArray, List.set_cons_zero, List.set_cons_succ])
                            refine wpAnyH_take (i := 13) (oi := ⟨some 104, _, _, _, _, _⟩) (v := ?_) rfl (by kernel_rfl) (by kernel_rfl) (by kernel_rfl) (fun _ _ _ h => h) (Or.inl ⟨by rfl, ?_⟩) (by assumption) ?_
                            rotate_left
                            · ((intro w hSw); (try dsimp only at hSw); go_simp; (try with_reducible rfl))
                            (try simp only [Act.put, List.setIfInBounds_toArray, List.set_cons_zero, List.set_cons_succ])
                            refine wpAnyH_take (i := 14) (oi := ⟨some 105, _, _, _, _, _⟩) (v := ?_) rfl (by kernel_rfl) (by kernel_rfl) (by kernel_rfl) (fun _ _ _ h => h) (Or.inl ⟨by rfl, ?_⟩) (by assumption) ?_
                            rotate_left
                            · ((intro w hSw); (try dsimp only at hSw); go_simp; (try with_reducible rfl))
                            (try simp only [Act.put, List.setIfInBounds_toArray, List.set_cons_zero, List.set_cons_succ])
                            refine wpAnyH_ready (rs := [15]) (by kernel_rfl) (by simp) ?_
                            refine AllReadyH.cons (o := ⟨none, _, _, _, _, _⟩) rfl (fun K hK => ?_) AllReadyH.nil
                            go_simp
                            refine hK.out _ _ (by (try dsimp only); (exact ⟨Step.of, fun b o hne h => (World.cell?_of_block (w := w8) (Below.heap_setCell w8 _ _ b hne)).trans ((fut M w8).cell (p := ⟨b, o, none⟩) h)⟩)) (fun hHeld => ?_)
                            clear hK K
                            (try simp only [Act.put, List.setIfInBounds_toArray, List.set_cons_zero, List.set_cons_succ])
                            refine wpAnyH_done (by kernel_rfl) ?_ _
                            obtain ⟨hS1, hS2⟩ := hHeld
                            go_wp2_with fail
                            go_roundw
                            case rel =>
                              refine ⟨k + 1, L.set k 2, by omega, by go_num, by simp [HLL.out], ⟨fun i m hik hm hkm => ?_⟩, ?_, Step.of⟩
                              · by_cases e : i = k
                                · subst e
                                  rw [HN.out] at hm
                                  obtain rfl := Option.some.inj hm
                                  rw [HVAL.out, List.getElem?_set_self (by rw [HLL.out]; exact hlt)]
                                  rfl
                                · rw [List.getElem?_set_ne (Ne.symm e)]
                                  exact HLK.at_ i m (by omega) hm hkm
                              · rw [List.map_set]
                                exact (HG.out.fut (w' := w8)).set_ k _
                            case measure => simp [intOf]; omega
            · have e1 : (n.kind != 1) = true := by simp; omega
              have e2 : (n.kind != 2) = true := by simp; omega
              have HK12 := hide h12
              clear h12
              go_wp2_with fail
              go_roundw
              case rel =>
                refine ⟨k + 1, L, by omega, by go_num, HLL.out, ⟨fun i m hik hm hkm => ?_⟩, HG.out.fut, Step.of⟩
                by_cases e : i = k
                · subst e
                  rw [HN.out] at hm
                  obtain rfl := Option.some.inj hm
                  exact absurd hkm HK12.out
                · exact HLK.at_ i m (by omega) hm hkm
              case measure => simp [intOf]; omega
          · obtain rfl : k = ns.length := by omega
            have HSL : Hid (SlAt wo wo.heap.size 1 (some ⟨g, 0, none⟩) (intCells L)) := SlAt.of_blk1 HG.out (intCells_flat L) (int_fit L).len
            have FO := hide (fun w' [Fut w0 w'] [Fut wo w'] => rfold_any ns A cap s L (some ⟨g, 0, none⟩) ns.length (leafPart s fs part) w' hp CK.out (leafPart_lt s fs part) HSL.out HLL.out (fun i m hm hkm => HLK.at_ i m (List.getElem?_eq_some_iff.1 hm).1 hm hkm))
            obtain ⟨r, hr⟩ : ∃ r, walkB (leafPart s fs part) ns = r := ⟨_, rfl⟩
            rw [hr] at FO
            have HTR : Hid (T = (r, 0)) := by show _ = _; rw [hE.out, hr]
            clear hr
            go_wp2_with (refine (FO.out _).mono ?_; rintro e w6 ⟨rfl, hs6⟩)
            go_ret2
            exact ⟨by rw [HTR.out]; rfl, Step.of⟩
      · have hE : Hid (T = (false, 1800)) := by show _ = _; rw [← HT.out, partsR, CK.out, if_neg (by simp), if_neg (by simp [hl])]
        have el : ((part.length : Int) != (fs.length : Int)) = true := by simp; omega
        clear hl
        go_enter Tryz.func10, Tryz.ntmps10
        go_wp2_with (first | (go_at_call 29; refine (PC.out _).mono ?_; rintro e w3 ⟨rfl, hs3⟩; rw [← HW.out] at hs3; (obtain ⟨t0, t1⟩ := At.z2 (HFW.out.fut (w' := w3)).at0); have lt_ := (HFW.out.fut (w' := w3)).lt; (obtain ⟨q0, q1, q2⟩ := At.z3 (HSW.out.fut (w' := w3)).at0); have lq := (HSW.out.fut (w' := w3)).lt) | (go_at_call 38; refine (PS.out _).mono ?_; rintro e w4 ⟨rfl, hs4⟩; clear t0 t1 lt_ q0 q1 q2 lq; (obtain ⟨t0, t1⟩ := At.z2 (HFW.out.fut (w' := w4)).at0); have lt_ := (HFW.out.fut (w' := w4)).lt))
        go_ret2
        exact ⟨by rw [hE.out]; rfl, Step.of⟩
  · have hE : Hid (T = (false, checkE ns s)) := by show _ = _; rw [← HT.out, partsR, if_pos hc]
    have hcb : (checkE ns s != 0) = true := by simpa using hc
    have PC := hide pc
    clear pc hc
    go_enter Tryz.func10, Tryz.ntmps10
    go_wp2_with (refine (PC.out _).mono ?_; rintro e w3 ⟨rfl, hs3⟩; rw [← HW.out] at hs3)
    go_ret2
    exact ⟨by rw [hE.out]; rfl, Step.of⟩
end Go.Proofs.YtcgpfllkbflbhaaGreatDoor
