/-
  The pile's methods: Len, Less, Swap, Pop; what an interface that holds a pile's address leads to.
-/
import Derived.Test.YtafgfehjdbomfaaDoorHl
import Derived.Test.YtafgfehjdbomfaaDoorHp
import Derived.WalkSmall
namespace Go.Proofs.YtafgfehjdbomfaaDoor
open Go.RowKit

theorem m_len (g n c : Nat) (A : Option Addr) (w : World) (h : w.cell? ⟨g, 0, none⟩ = some (.slice A n c)) : (method 296 92 (.pointer (some ⟨g, 0, none⟩)) "Len").run Tryd.prog w = .ok (45, .slice A n c) w := by
  have e : (method 296 92 (.pointer (some ⟨g, 0, none⟩)) "Len").run Tryd.prog w = (do let v ← loadVar 90 ⟨g, 0, none⟩; pure (45, v)).run Tryd.prog w := by kernel_rfl
  rw [e]
  go_simp
theorem m_less (g n c : Nat) (A : Option Addr) (w : World) (h : w.cell? ⟨g, 0, none⟩ = some (.slice A n c)) : (method 296 92 (.pointer (some ⟨g, 0, none⟩)) "Less").run Tryd.prog w = .ok (149, .slice A n c) w := by
  have e : (method 296 92 (.pointer (some ⟨g, 0, none⟩)) "Less").run Tryd.prog w = (do let v ← loadVar 90 ⟨g, 0, none⟩; pure (149, v)).run Tryd.prog w := by kernel_rfl
  rw [e]
  go_simp
theorem m_swap (g n c : Nat) (A : Option Addr) (w : World) (h : w.cell? ⟨g, 0, none⟩ = some (.slice A n c)) : (method 296 92 (.pointer (some ⟨g, 0, none⟩)) "Swap").run Tryd.prog w = .ok (150, .slice A n c) w := by
  have e : (method 296 92 (.pointer (some ⟨g, 0, none⟩)) "Swap").run Tryd.prog w = (do let v ← loadVar 90 ⟨g, 0, none⟩; pure (150, v)).run Tryd.prog w := by kernel_rfl
  rw [e]
  go_simp
theorem m_pop (g : Nat) (w : World) : (method 296 92 (.pointer (some ⟨g, 0, none⟩)) "Pop").run Tryd.prog w = .ok (152, .pointer (some ⟨g, 0, none⟩)) w := by kernel_rfl

theorem plen_any (A : Option Addr) (n c : Nat) (w : World) : Calls Tryd.prog 45 #[.slice A n c] w fun e w' => e = .returned (.int .i64 n) ∧ w = w' := by
  go_enter Tryd.func45, Tryd.ntmps45
  go_wp2
  go_ret
  exact ⟨rfl, rfl⟩

def RowA.sl (r : RowA) : Value := .slice r.A r.vs.length r.cap
theorem swap_own {base : Nat} {rs : List RowA} {c i k g : Nat} {x y : RowA} {w : World} (h : OwnR w base (some ⟨g, 0, none⟩) rs.length c rs) (hi : rs[i]? = some x) (hk : rs[k]? = some y) :
    OwnR (((w.setCell ⟨g, i, none⟩ y.sl).setCell ⟨g, k, none⟩ x.sl).drew) base (some ⟨g, 0, none⟩) rs.length c (swp rs i k x y) ∧ w.grownBy (((w.setCell ⟨g, i, none⟩ y.sl).setCell ⟨g, k, none⟩ x.sl).drew) (some g) := by
  obtain ⟨g1, e1, _, _, _, _, p1⟩ := h.out.put (rows_fit rs).len (k := i) (j := 0) (cs := x.cells) (by simp [hi]) (by decide)
  cases e1
  have o1 := p1 y.sl
  have o1 : Own (w.setCell ⟨g, i, none⟩ y.sl) base 54 1 (.slice (some ⟨g, 0, none⟩) rs.length c) ((rs.set i y).map RowA.cells) := by
    rw [List.map_set]
    simpa [RowA.cells, RowA.sl] using o1
  have hk2 : (rs.set i y)[k]? = some y := by
    rw [List.getElem?_set]
    split
    · rename_i e
      rw [if_pos (List.getElem?_eq_some_iff.1 hi).1]
    · exact hk
  obtain ⟨g2, e2, _, _, _, _, p2⟩ := o1.put (rows_fit _).len (k := k) (j := 0) (cs := y.cells) (by rw [List.getElem?_map, hk2]; rfl) (by decide)
  cases e2
  have o2 := p2 x.sl
  have o2 : Own ((w.setCell ⟨g, i, none⟩ y.sl).setCell ⟨g, k, none⟩ x.sl) base 54 1 (.slice (some ⟨g, 0, none⟩) rs.length c) ((swp rs i k x y).map RowA.cells) := by
    unfold swp
    rw [List.map_set]
    simpa [RowA.cells, RowA.sl] using o2
  have hgr : w.grownBy (((w.setCell ⟨g, i, none⟩ y.sl).setCell ⟨g, k, none⟩ x.sl).drew) (some g) := ((grown_setCell w g i y.sl).trans (grown_setCell _ g k x.sl)).trans ⟨rfl, rfl, rfl, Nat.le_refl _, fun _ _ _ => rfl⟩
  refine ⟨⟨o2.fut, fun r hr => ?_⟩, hgr⟩
  have hr2 : r ∈ rs := (swp_perm hi hk).mem_iff.1 hr
  exact (h.rows r hr2).grown_other hgr (own_ne (h.rows r hr2) h.out (by decide))
set_option maxRecDepth 100000 in
theorem pswap_any {base : Nat} (rs : List RowA) (A : Option Addr) (c i k : Nat) (x y : RowA) (w : World) (h : OwnR w base A rs.length c rs) (hi : rs[i]? = some x) (hk : rs[k]? = some y) :
    Calls Tryd.prog 150 #[.slice A rs.length c, .int .i64 i, .int .i64 k] w fun e w' => e = .returned (.tuple #[]) ∧ OwnR w' base A rs.length c (swp rs i k x y) ∧ w.grownBy w' (Value.slice A rs.length c).ownBlock := by
  have hil := (List.getElem?_eq_some_iff.1 hi).1
  have hkl := (List.getElem?_eq_some_iff.1 hk).1
  obtain ⟨g, rfl, hg, hgl, hat, hfr, _⟩ := h.out.put (rows_fit rs).len (k := i) (j := 0) (cs := x.cells) (by simp [hi]) (by decide)
  obtain ⟨g2, hg2, _, _, hat2, _, _⟩ := h.out.put (rows_fit rs).len (k := k) (j := 0) (cs := y.cells) (by simp [hk]) (by decide)
  cases hg2
  have p0 := At.l1 hat
  have q0 := At.l1 hat2
  simp only [Nat.mul_one] at p0 q0
  have f1 := hfr i
  have f2 := hfr k
  have h1 : (i : Int) < (rs.length : Int) := by omega
  have h2 : (k : Int) < (rs.length : Int) := by omega
  have h3 : (0 : Int) ≤ (i : Int) := by omega
  have h4 : (0 : Int) ≤ (k : Int) := by omega
  have SO := hide (swap_own h hi hk)
  clear hat hat2 hfr
  rcases Nat.decEq i k with hne | he
  · have hn1 : (i = k) = False := eq_false hne
    have hn2 : (k = i) = False := eq_false (fun e => hne e.symm)
    go_enter Tryd.func150, Tryd.ntmps150
    go_region
    go_end0
    exact ⟨rfl, SO.out.1, SO.out.2⟩
  · subst he
    obtain rfl : x = y := by rw [hi] at hk; exact Option.some.inj hk
    go_enter Tryd.func150, Tryd.ntmps150
    go_region
    go_end0
    exact ⟨rfl, SO.out.1, SO.out.2⟩

set_option maxRecDepth 100000 in
set_option maxHeartbeats 4000000 in
theorem pless2_any {w0 : World} (rs : List RowA) (A : Option Addr) (c i k : Nat) (x y : RowA) (w : World) (h : RowsIn w0 rs A c) [f0 : Fut w0 w] (hi : rs[i]? = some x) (hk : rs[k]? = some y) :
    Calls Tryd.prog 149 #[.slice A rs.length c, .int .i64 i, .int .i64 k] w fun e w' => e = .returned (.bool (lessL x.vs y.vs)) ∧ Step w w' := by
  have z0 := f0.below.size
  have hil := (List.getElem?_eq_some_iff.1 hi).1
  have hkl := (List.getElem?_eq_some_iff.1 hk).1
  have hrm := h.hcapm
  obtain ⟨wo, rfl⟩ : ∃ x : World, x = w := ⟨_, rfl⟩
  obtain ⟨b1, o1, hA1, hb1, x', hx', hxi, p0⟩ := h.row (w' := wo) inferInstance hil
  obtain ⟨b2, o2, hA2, hb2, y', hy', hyi, q0⟩ := h.row (w' := wo) inferInstance hkl
  rw [hi] at hx'; injection hx' with hx'; subst hx'
  rw [hk] at hy'; injection hy' with hy'; subst hy'
  cases (hA1.symm.trans hA2)
  have PL := hide (fun w' [Fut w0 w'] => pl_any x y w' hxi hyi)
  have h1 : (i : Int) < (rs.length : Int) := by omega
  have h2 : (k : Int) < (rs.length : Int) := by omega
  have h3 : (0 : Int) ≤ (i : Int) := by omega
  have h4 : (0 : Int) ≤ (k : Int) := by omega
  have l1 : b1 < wo.heap.size := by omega
  rw [hA1]
  clear hA1 hA2 hi hk
  go_enter Tryd.func149, Tryd.ntmps149
  go_upto_region 1 with (fail)
  refine wp_region_held_drew (S := (fun w' => Step wo w' ∧ (∀ b o, b < wo.heap.size → w'.cell? ⟨b, o, none⟩ = wo.cell? ⟨b, o, none⟩))) (by kernel_rfl) (by (try dsimp only); (first | exact ⟨hS1, hS2⟩ | exact ⟨Step.of, (bcell (fut _ _)).1⟩)) (fun hHeld => ?_)
  refine wpAnyH_take (i := 0) (oi := ⟨some 7, _, _, _, _, _⟩) (v := ?_) rfl (by kernel_rfl) (by kernel_rfl) (by kernel_rfl) (fun _ _ _ h => h) (Or.inl ⟨by rfl, ?_⟩) (by assumption) ?_
  rotate_left
  · ((intro w hSw); (try dsimp only at hSw); go_simp; (try with_reducible rfl))
  (try simp only [Act.put, List.setIfInBounds_toArray, List.set_cons_zero, List.set_cons_succ])
  refine wpAnyH_take (i := 1) (oi := ⟨some 8, _, _, _, _, _⟩) (v := ?_) rfl (by kernel_rfl) (by kernel_rfl) (by kernel_rfl) (fun _ _ _ h => h) (Or.inl ⟨by rfl, ?_⟩) (by assumption) ?_
  rotate_left
  · ((intro w hSw); (try dsimp only at hSw); go_simp; (try with_reducible rfl))
  (try simp only [Act.put, List.setIfInBounds_toArray, List.set_cons_zero, List.set_cons_succ])
  refine wpAnyH_take (i := 4) (oi := ⟨some 11, _, _, _, _, _⟩) (v := ?_) rfl (by kernel_rfl) (by kernel_rfl) (by kernel_rfl) (fun _ _ _ h => h) (Or.inl ⟨by rfl, ?_⟩) (by assumption) ?_
  rotate_left
  · ((intro w hSw); (try dsimp only at hSw); go_simp; (try with_reducible rfl))
  (try simp only [Act.put, List.setIfInBounds_toArray, List.set_cons_zero, List.set_cons_succ])
  refine wpAnyH_take (i := 5) (oi := ⟨some 12, _, _, _, _, _⟩) (v := ?_) rfl (by kernel_rfl) (by kernel_rfl) (by kernel_rfl) (fun _ _ _ h => h) (Or.inl ⟨by rfl, ?_⟩) (by assumption) ?_
  rotate_left
  · ((intro w hSw); (try dsimp only at hSw); go_simp; (try with_reducible rfl))
  (try simp only [Act.put, List.setIfInBounds_toArray, List.set_cons_zero, List.set_cons_succ])
  refine wpAnyH_take (i := 2) (oi := ⟨some 9, _, _, _, _, _⟩) (v := ?_) rfl (by kernel_rfl) (by kernel_rfl) (by kernel_rfl) (fun _ _ _ h => h) (Or.inl ⟨by rfl, ?_⟩) (by assumption) ?_
  rotate_left
  · ((intro w hSw); (try dsimp only at hSw); go_simp; (try with_reducible rfl))
  (try simp only [Act.put, List.setIfInBounds_toArray, List.set_cons_zero, List.set_cons_succ])
  refine wpAnyH_take (i := 6) (oi := ⟨some 13, _, _, _, _, _⟩) (v := ?_) rfl (by kernel_rfl) (by kernel_rfl) (by kernel_rfl) (fun _ _ _ h => h) (Or.inl ⟨by rfl, ?_⟩) (by assumption) ?_
  rotate_left
  · ((intro w hSw); (try dsimp only at hSw); go_simp; (try with_reducible rfl))
  (try simp only [Act.put, List.setIfInBounds_toArray, List.set_cons_zero, List.set_cons_succ])
  refine wpAnyH_take (i := 3) (oi := ⟨some 10, _, _, _, _, _⟩) (v := ?_) rfl (by kernel_rfl) (by kernel_rfl) (by kernel_rfl) (fun _ _ _ h => h) (Or.inl ⟨by rfl, ?_⟩) (by assumption) ?_
  rotate_left
  · ((intro w hSw); (try dsimp only at hSw); go_simp; (try with_reducible rfl))
  (try simp only [Act.put, List.setIfInBounds_toArray, List.set_cons_zero, List.set_cons_succ])
  refine wpAnyH_take (i := 7) (oi := ⟨some 14, _, _, _, _, _⟩) (v := ?_) rfl (by kernel_rfl) (by kernel_rfl) (by kernel_rfl) (fun _ _ _ h => h) (Or.inl ⟨by rfl, ?_⟩) (by assumption) ?_
  rotate_left
  · ((intro w hSw); (try dsimp only at hSw); go_simp; (try with_reducible rfl))
  (try simp only [Act.put, List.setIfInBounds_toArray, List.set_cons_zero, List.set_cons_succ])
  refine wpAnyH_ready (rs := [8]) (by kernel_rfl) (by simp) ?_
  refine AllReadyH.cons (o := ⟨some 15, _, _, _, _, _⟩) rfl (fun K hK => ?_) AllReadyH.nil
  obtain ⟨hS1, hS2⟩ := hHeld
  go_simp
  (go_at_call 151; (with_reducible refine (PL.out _).mono ?_); rintro e w5 ⟨rfl, hs5⟩)
  refine hK.out _ _ (by (try dsimp only); (first | exact ⟨hS1, hS2⟩ | exact ⟨Step.of, (bcell (fut _ _)).1⟩)) (fun hHeld => ?_)
  clear hK K
  (try simp only [Act.put, List.setIfInBounds_toArray, List.set_cons_zero, List.set_cons_succ])
  refine wpAnyH_take (i := 9) (oi := ⟨some 6, _, _, _, _, _⟩) (v := ?_) rfl (by kernel_rfl) (by kernel_rfl) (by kernel_rfl) (fun _ _ _ h => h) (Or.inl ⟨by rfl, ?_⟩) (by assumption) ?_
  rotate_left
  · ((intro w hSw); (try dsimp only at hSw); go_simp; (try with_reducible rfl))
  (try simp only [Act.put, List.setIfInBounds_toArray, List.set_cons_zero, List.set_cons_succ])
  refine wpAnyH_done (by kernel_rfl) ?_ _
  go_wp2_with fail
  go_ret
  exact ⟨rfl, Step.of⟩
theorem row_takes {rs : List RowA} {n : Nat} {x : RowA} (h : rs.length = n + 1) (hx : rs[n]? = some x) : rs = rs.take n ++ [x] := by
  have h1 := List.take_append_drop n rs
  obtain ⟨hn, e⟩ := List.getElem?_eq_some_iff.1 hx
  rw [List.drop_eq_getElem_cons hn, e, List.drop_eq_nil_of_le (by omega)] at h1
  exact h1.symm
theorem OwnR.pop {w : World} {base g c n : Nat} {rs : List RowA} {x : RowA} (h : OwnR w base (some ⟨g, 0, none⟩) (n + 1) c rs) (hl : rs.length = n + 1) (hx : rs[n]? = some x) : OwnR w base (some ⟨g, 0, none⟩) n c (rs.take n) := by
  refine ⟨?_, fun r hr => h.rows r (List.mem_of_mem_take hr)⟩
  have h1 := h.out
  unfold Own at h1 ⊢
  rw [List.length_map, hl, row_takes hl hx, List.map_append, List.flatten_append] at h1
  have h2 := ownsRow_pop (n := n) (by
    have e : ∀ l : List RowA, (l.map RowA.cells).flatten.length = l.length := by
      intro l
      induction l with
      | nil => rfl
      | cons a l ih => simp [RowA.cells] at ih ⊢; exact ih
    rw [e]; simp; omega) h1
  have e2 : ((rs.take n).map RowA.cells).length = n := by simp; omega
  rw [e2]
  exact h2
theorem OwnR.grownP {w w' : World} {base gp n c : Nat} {A : Option Addr} {rs : List RowA} {cs : List Value} (h : OwnR w base A n c rs) (hp : Blk w gp 90 cs) (hg : w.grownBy w' (some gp)) : OwnR w' base A n c rs :=
  ⟨h.out.grown_other hg (fun k hk e => h.out.ne_ hp (by decide) (e.trans hk.symm)), fun r hr => (h.rows r hr).grown_other hg (fun k hk e => (h.rows r hr).ne_ hp (by decide) (e.trans hk.symm))⟩
set_option maxRecDepth 100000 in
theorem ppop_any {base : Nat} (gp n c : Nat) (A : Option Addr) (rs : List RowA) (x : RowA) (w : World) (hp : Blk w gp 90 [.slice A (n + 1) c]) (h : OwnR w base A (n + 1) c rs) (hl : rs.length = n + 1) (hx : rs[n]? = some x) (hb : n ≤ 5864062014634) :
    Calls Tryd.prog 152 #[.pointer (some ⟨gp, 0, none⟩)] w fun e w' => e = .returned (.iface 54 (.agg #[x.sl])) ∧ Blk w' gp 90 [.slice A n c] ∧ OwnR w' base A n c (rs.take n) ∧ w.grownBy w' (some gp) := by
  obtain ⟨g, rfl, hg, hgl, hat, hfr, _⟩ := h.out.put (rows_fit rs).len (k := n) (j := 0) (cs := x.cells) (by simp [hx]) (by decide)
  have p0 := At.l1 hat
  simp only [Nat.mul_one] at p0
  have q0 := At.z1 hp.at0; have lq := hp.lt; have fq := hp.free
  have hn1 : (n : Int) < (n : Int) + 1 := by omega
  obtain ⟨A', c', hv, hc1, hc2, _, _⟩ := h.out.slice (n := n + 1) (rows_fit rs).len (by rw [List.length_map]; exact hl)
  cases hv
  simp only [maxLen] at hc2
  have hnc : (n : Int) ≤ (c : Int) := by omega
  have hc0 : (c = 0) = False := eq_false (by omega)
  have HO := hide (h.pop hl hx)
  have HP := hide hp
  go_enter Tryd.func152, Tryd.ntmps152
  go_wp2_with fail
  have hgr : w.grownBy ((w.setCell ⟨gp, 0, none⟩ (.slice (some ⟨g, 0, none⟩) n c)).alloc (.cells #[x.sl] 54)) (some gp) := (grown_setCell w gp 0 _).trans (World.grownBy_alloc _ _ _)
  go_ret
  exact ⟨rfl, (HP.out.set_ 0 (.slice (some ⟨g, 0, none⟩) n c)).alloc _, HO.out.grownP HP.out hgr, hgr⟩
end Go.Proofs.YtafgfehjdbomfaaDoor
