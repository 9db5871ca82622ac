/-
  Rows that are written over: what is older than the call that made them stays.
-/
import Derived.Test.YtinpnginjpfbpaaDoorLrd
namespace Go.Proofs.YtinpnginjpfbpaaDoor
open Go.RowKit

theorem flat_get {size : Nat} : ∀ {l : List (List Value)}, (∀ x ∈ l, x.length = size) → ∀ (k j : Nat) (cs : List Value), l[k]? = some cs → j < size → l.flatten[k * size + j]? = cs[j]?
  | [], _, k, _, cs, h, _ => by simp at h
  | x :: r, hs, 0, j, cs, h, hj => by
    have hx := hs x (by simp)
    simp at h
    subst h
    rw [List.flatten_cons, Nat.zero_mul, Nat.zero_add, List.getElem?_append_left (by omega)]
  | x :: r, hs, k + 1, j, cs, h, hj => by
    have hx := hs x (by simp)
    rw [List.flatten_cons, List.getElem?_append_right (by rw [hx, Nat.add_mul]; omega), show (k + 1) * size + j - x.length = k * size + j by rw [hx, Nat.add_mul]; omega]
    exact flat_get (fun y hy => hs y (by simp [hy])) k j cs (by simpa using h) hj
/-- Values whose numbers may be written over. -/
def SpV (w : World) (base : Nat) (A : Option Addr) (n : Nat) : Prop := n = 0 ∨ ∃ g cur, A = some ⟨g, 0, none⟩ ∧ base ≤ g ∧ Blk w g 57 cur ∧ ∀ k, k < n → ∃ x, cur[k * 4 + 1]? = some (.int .i64 x)
/-- What writing over leaves alone. -/
structure Sp (base : Nat) (w w' : World) : Prop where
  below : Below base w w'
  vals : ∀ A n, SpV w base A n → SpV w' base A n
  rows : ∀ g cur, Blk w g 48 cur → Blk w' g 48 cur
theorem Sp.refl (base : Nat) (w : World) : Sp base w w := ⟨Below.refl _ _, fun _ _ h => h, fun _ _ h => h⟩
theorem Sp.trans {base : Nat} {a b c : World} (h : Sp base a b) (k : Sp base b c) : Sp base a c := ⟨h.below.trans k.below, fun A n q => k.vals A n (h.vals A n q), fun g cur q => k.rows g cur (h.rows g cur q)⟩
theorem Sp.put {base g o : Nat} {w : World} {cur : List Value} (hb : Blk w g 57 cur) (hg : base ≤ g) (x : Int) : Sp base w (w.setCell ⟨g, o, none⟩ (.int .i64 x)) := by
  refine ⟨(Below.refl base w).setCell (p := ⟨g, o, none⟩) hg _, fun A n h => ?_, fun q c h => h.far (p := ⟨g, o, none⟩) (h.ne_ hb (by decide)) _⟩
  rcases h with h | ⟨q, c, hA, hq, hbq, hc⟩
  · exact .inl h
  · by_cases e : q = g
    · subst e
      refine .inr ⟨q, c.set o (.int .i64 x), hA, hq, hbq.set_ o _, fun k hk => ?_⟩
      obtain ⟨y, hy⟩ := hc k hk
      rw [List.getElem?_set]
      split
      · have := (List.getElem?_eq_some_iff.1 hy).1
        rename_i he
        subst he
        exact ⟨x, by simp [this]⟩
      · exact ⟨y, hy⟩
    · exact .inr ⟨q, c, hA, hq, hbq.far (p := ⟨g, o, none⟩) e _, hc⟩
theorem SpV.of_own {w : World} {base n c : Nat} {A : Option Addr} {vs : List Val} (h : Own w base 57 4 (.slice A n c) (vs.map Val.cells)) : SpV w base A n := by
  rcases Nat.eq_zero_or_pos vs.length with e | e
  · have := h.1
    rcases h.2 with ⟨h1, h2⟩ | ⟨g, cap', cur, hv, _⟩
    · injection h1 with h1 h3
      exact .inl h3
    · injection hv with h1 h3
      rw [List.length_map, e] at h3
      exact .inl h3
  · obtain ⟨g, cur, rfl, hn, hg, hb, _, _, _, ht⟩ := h.blk (by simpa using e)
    refine .inr ⟨g, cur, rfl, hg, hb, fun k hk => ?_⟩
    rw [List.length_map] at hn
    have hx : vs[k]? = some vs[k] := List.getElem?_eq_getElem (by omega)
    refine ⟨vs[k].i, ?_⟩
    have h2 := flat_get (vals_fit vs).len k 1 vs[k].cells (by simp [hx]) (by decide)
    rw [← ht, List.getElem?_take, if_pos (by omega)] at h2
    exact h2
set_option maxRecDepth 100000 in
theorem spoilV_any (base : Nat) (A : Option Addr) (n c : Nat) (w : World) (h : SpV w base A n) (hl : n ≤ 4611686018427387904) :
    Calls Tryd.prog 29 #[.slice A n c] w fun e w' => e = .returned (.tuple #[]) ∧ Sp base w w' := by
  go_enter Tryd.func29, Tryd.ntmps29
  go_wp2
  go_loopw [2] (fun i wr => ∃ k : Nat, k ≤ n ∧ i = .int .i64 k ∧ Sp base w wr) (fun i _ => n - (intOf i).toNat)
  case atStart => exact ⟨0, Nat.zero_le _, rfl, Sp.refl _ _⟩
  case round =>
    obtain ⟨k, hk, rfl, hsp⟩ := hrel
    have HS := hide hsp; clear hsp
    by_cases hlt : k < n
    · rcases HS.out.vals _ _ h with e | ⟨g, cur, rfl, hg, hb, hc⟩
      · omega
      · obtain ⟨x, hx⟩ := hc k hlt
        have p1 : wr.cell? ⟨g, k * 4 + 1, none⟩ = some (.int .i64 x) := by have := hb.at0 (k * 4 + 1) _ hx; simpa using this
        have hf0 := hb.free (k * 4 + 1)
        have hlg := hb.lt
        have HB := hide hb
        have hkl : (k : Int) < (n : Int) := by omega
        have hk0 : (0 : Int) ≤ (k : Int) := by omega
        clear hx hc hb
        go_wp2
        go_roundw
        case rel => exact ⟨k + 1, by omega, by go_num, HS.out.trans (Sp.put HB.out hg _)⟩
        case measure => simp [intOf]; omega
    · go_wp2_with fail
      go_end0
      exact ⟨rfl, HS.out⟩
/-- Rows that may be written over. -/
structure WkR (w : World) (base : Nat) (A : Option Addr) (rs : List RowA) : Prop where
  vals : ∀ r ∈ rs, SpV w base r.A r.vs.length
  blk : rs.length = 0 ∨ ∃ g cur, A = some ⟨g, 0, none⟩ ∧ base ≤ g ∧ Blk w g 48 cur ∧ ∀ k, 0 ≤ k → ∀ r, rs[k]? = some r → cur[k]? = some (.slice r.A r.vs.length r.cap)
/-- What writing rows at A over leaves alone. -/
structure SpR (base : Nat) (A : Option Addr) (w w' : World) : Prop where
  below : Below base w w'
  vals : ∀ A n, SpV w base A n → SpV w' base A n
  rows : ∀ g cur, A ≠ some ⟨g, 0, none⟩ → Blk w g 48 cur → Blk w' g 48 cur
theorem SpR.refl (base : Nat) (A : Option Addr) (w : World) : SpR base A w w := ⟨Below.refl _ _, fun _ _ h => h, fun _ _ _ h => h⟩
theorem WkR.of_own {w : World} {base c : Nat} {A : Option Addr} {rs : List RowA} (h : OwnR w base A rs.length c rs) : WkR w base A rs := by
  refine ⟨fun r hr => SpV.of_own (h.rows r hr), ?_⟩
  rcases Nat.eq_zero_or_pos rs.length with e | e
  · exact .inl e
  · obtain ⟨g, cur, rfl, hn, hg, hb, _, _, _, ht⟩ := h.out.blk (by simpa using e)
    refine .inr ⟨g, cur, rfl, hg, hb, fun k _ r hr => ?_⟩
    have hk := (List.getElem?_eq_some_iff.1 hr).1
    have h2 := flat_get (rows_fit rs).len k 0 r.cells (by simp [hr]) (by decide)
    rw [← ht, List.getElem?_take, if_pos (by omega)] at h2
    simpa [RowA.cells] using h2
theorem WkR.more {w : World} {base base' : Nat} {A : Option Addr} {rs : List RowA} (h : WkR w base A rs) (hb : base' ≤ base) : WkR w base' A rs := by
  refine ⟨fun r hr => ?_, ?_⟩
  · rcases h.vals r hr with e | ⟨g, cur, hA, hg, q⟩
    · exact .inl e
    · exact .inr ⟨g, cur, hA, Nat.le_trans hb hg, q⟩
  · rcases h.blk with e | ⟨g, cur, hA, hg, q⟩
    · exact .inl e
    · exact .inr ⟨g, cur, hA, Nat.le_trans hb hg, q⟩
theorem WkR.after {w w' : World} {base m : Nat} {A A' : Option Addr} {rs : List RowA} (h : WkR w m A' rs) (hm : base ≤ m) (hs : SpR base A w w') (hA : ∀ g, A = some ⟨g, 0, none⟩ → g < m) : WkR w' base A' rs := by
  refine ⟨fun r hr => hs.vals _ _ ((h.more hm).vals r hr), ?_⟩
  rcases h.blk with e | ⟨g, cur, e, hg, hb, q⟩
  · exact .inl e
  · refine .inr ⟨g, cur, e, Nat.le_trans hm hg, hs.rows g cur (fun ha => ?_) hb, q⟩
    have := hA g ha
    omega
theorem spv_row {w : World} {base g j : Nat} {A : Option Addr} {n : Nat} {cur : List Value} {x : Value} (h : SpV w base A n) (hb : Blk w g 48 cur) : SpV (w.setCell ⟨g, j, none⟩ x) base A n := by
  rcases h with e | ⟨q, c2, hA, hq, hbq, hcq⟩
  · exact .inl e
  · exact .inr ⟨q, c2, hA, hq, hbq.far (p := ⟨g, j, none⟩) (hbq.ne_ hb (by decide)) _, hcq⟩
set_option maxRecDepth 100000 in
set_option maxHeartbeats 4000000 in
theorem spoilRowsW_any (base : Nat) (rs : List RowA) (A : Option Addr) (c : Nat) (w : World) (h : WkR w base A rs) (hl : rs.length ≤ 4611686018427387904) (hv : ∀ r ∈ rs, r.vs.length ≤ 4611686018427387904) :
    Calls Tryd.prog 12 #[.slice A rs.length c] w fun e w' => e = .returned (.tuple #[]) ∧ SpR base A w w' := by
  have HV : Hid (∀ r ∈ rs, SpV w base r.A r.vs.length) := h.vals
  have HB : Hid (rs.length = 0 ∨ ∃ g cur, A = some ⟨g, 0, none⟩ ∧ base ≤ g ∧ Blk w g 48 cur ∧ ∀ k, 0 ≤ k → ∀ r, rs[k]? = some r → cur[k]? = some (.slice r.A r.vs.length r.cap)) := h.blk
  have HL := hide hv
  clear h hv
  go_enter Tryd.func12, Tryd.ntmps12
  go_wp2_with fail
  go_loopw [2] (fun i wr => ∃ j : Nat, j ≤ rs.length ∧ i = .int .i64 j ∧ SpR base A w wr ∧ Hid (∀ r ∈ rs, SpV wr base r.A r.vs.length) ∧ Hid (rs.length = 0 ∨ ∃ g cur, A = some ⟨g, 0, none⟩ ∧ base ≤ g ∧ Blk wr g 48 cur ∧ ∀ k, j ≤ k → ∀ r, rs[k]? = some r → cur[k]? = some (.slice r.A r.vs.length r.cap))) (fun i _ => rs.length - (intOf i).toNat)
  case atStart => exact ⟨0, Nat.zero_le _, rfl, SpR.refl _ _ _, HV, HB⟩
  case round =>
    obtain ⟨j, hj, rfl, hbl, hvs, hbs⟩ := hrel
    have HBL := hide hbl; clear hbl HV HB
    obtain ⟨wo, rfl⟩ : ∃ x : World, x = wr := ⟨_, rfl⟩
    by_cases hlt : j < rs.length
    · obtain ⟨r, hr⟩ : ∃ r, rs[j]? = some r := ⟨_, List.getElem?_eq_getElem hlt⟩
      rcases hbs.out with e | ⟨g, cur, rfl, hg, hb, hc⟩
      · omega
      have hmem := List.mem_of_getElem? hr
      have p0 : wo.cell? ⟨g, j, none⟩ = some (.slice r.A r.vs.length r.cap) := by have := hb.at0 j _ (hc j (Nat.le_refl _) r hr); simpa using this
      have HB := hide hb; have HC := hide hc; have HR := hide hr; have HM := hide hmem
      have hlg := hb.lt
      have SV := hide (fun w' (h : SpV w' base r.A r.vs.length) => spoilV_any base r.A r.vs.length r.cap w' h (HL.out r hmem))
      have hjl : (j : Int) < (rs.length : Int) := by omega
      have hj0 : (0 : Int) ≤ (j : Int) := by omega
      clear hr hb hc hmem hbs
      go_wp2_with (go_at_call 29; (with_reducible refine (SV.out _ (hvs.out r HM.out)).mono ?_); rintro e w5 ⟨rfl, hsp⟩; have HSP := hide hsp; clear hsp; have hb5 := HSP.out.rows _ _ HB.out; clear p0 hlg; have p0 : w5.cell? ⟨g, j, none⟩ = some (.slice r.A r.vs.length r.cap) := (by have := hb5.at0 j _ (HC.out j (Nat.le_refl _) r HR.out); simpa using this); have hf5 := hb5.free j; have hl5 := hb5.lt; have HB5 := hide hb5; clear hb5)
      go_roundw
      case rel =>
        refine ⟨j + 1, by omega, by go_num, ⟨(HBL.out.below.trans HSP.out.below).setCell (p := ⟨g, j, none⟩) hg _, fun A2 n2 q2 => spv_row (HSP.out.vals _ _ (HBL.out.vals _ _ q2)) HB5.out, fun g2 cur2 n2 q2 => (HSP.out.rows _ _ (HBL.out.rows _ _ n2 q2)).far (p := ⟨g, j, none⟩) (fun e_ => n2 (by rw [e_])) _⟩, fun r' hr' => ?_, .inr ⟨g, cur.set j (.slice none 0 0), rfl, hg, HB5.out.set_ j _, fun k hk r' hr' => ?_⟩⟩
        · exact spv_row (HSP.out.vals _ _ (hvs.out r' hr')) HB5.out
        · rw [List.getElem?_set, if_neg (by omega)]
          exact HC.out k (by omega) r' hr'
      case measure => simp [intOf]; omega
    · go_wp2_with fail
      go_end0
      exact ⟨rfl, HBL.out⟩
end Go.Proofs.YtinpnginjpfbpaaDoor
