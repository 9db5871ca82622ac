/-
  The program's printer: a value, whole; how long a text is.
-/
import Derived.Test.YtoibfefalflooaaDoorJw
namespace Go.Proofs.YtoibfefalflooaaDoor
open Go.RowKit

theorem inn_any (t : T) (d : Nat) (hd : d ≤ 16) (hk : t.j.k = 4 ∨ t.j.k = 5) (IH : ∀ (A : Option Addr) (k n : Int) (b : Bool) (s : ByteArray) (c : Nat) (l : List T) (AK : Option Addr) (cK : Nat) (ks : List ByteArray), t = .mk k b n s A c l AK cK ks → ∀ x ∈ l, ∀ e, e + 1 = d → VAL x e) : INN t d := by
  cases d with
  | zero => exact inn_deep t
  | succ d =>
    intro g b o out wg w htb hgs hrd hat hbg hf hp
    cases t with
    | mk k bb n s A c l AK cK ks =>
      rw [RdT] at hrd
      obtain ⟨hA, hAK, ⟨h1, h3⟩, _, _, hsz, hrs⟩ := hrd
      have ih := fun x hx => IH A k n bb s c l AK cK ks rfl x hx d rfl
      rcases hk with hk | hk
      · have hk4 : k = 4 := hk
        subst hk4
        exact inn_list bb n s A l.length c l AK ks.length cK ks rfl rfl d hd ih g b o out wg w htb hgs (by omega) hA hrs hAK hsz (by omega) hat hbg hf hp _ rfl
      · have hk5 : k = 5 := hk
        subst hk5
        exact inn_obj bb n s A l.length c l AK ks.length cK ks rfl rfl d hd ih g b o out wg w htb hgs (by omega) hA hrs hAK hsz (by omega) hat hbg hf hp _ rfl

set_option maxRecDepth 100000 in
set_option maxHeartbeats 4000000 in
theorem val_inn (t : T) (d : Nat) (hd : d ≤ 16) (hk : t.j.k = 4 ∨ t.j.k = 5) (IN : INN t d) : VAL t d := by
  intro g b o out wg w htb hgs hrd hat hbg hf hp
  have IN2 := IN g b o out wg w htb hgs hrd hat hbg hf hp
  rw [← prV_inn hk] at IN2
  cases t with
  | mk k bb n s A c l AK cK ks =>
    have hk2 : k = 4 ∨ k = 5 := hk
    have hatw : At w b o (T.cells (.mk k bb n s A c l AK cK ks)) := hat.below hf.below (by omega)
    rw [T.cells] at hatw
    obtain ⟨c0, c1, c2, c3, c4, c5⟩ := At.o6 hatw
    obtain ⟨R, hR⟩ : ∃ R, prV (T.j (.mk k bb n s A c l AK cK ks)) d out = R := ⟨_, rfl⟩
    rw [hR] at IN2
    rw [hR]
    obtain ⟨D, hD⟩ : ∃ D : Int, 16 - (d : Int) = D := ⟨_, rfl⟩
    have hD2 : 17 - (d : Int) = D + 1 := by omega
    rw [hD2] at IN2
    rw [hD]
    have hD3 : 0 ≤ D := by omega
    have hD4 : D ≤ 16 := by omega
    clear hatw hat hrd IN hk hR hD hD2 hgs hp hf hbg htb c1 c2 c3 c4 c5
    cases R with
    | error ec =>
      have AY := hide (calls_err IN2 rfl)
      clear IN2
      rcases hk2 with rfl | rfl
      all_goals
        go_enter Tryd.func28, Tryd.ntmps28
        go_wp2_with (go_at_call 46; (with_reducible refine AY.out.mono ?_); rintro e w2 ⟨rfl, hb2⟩)
        exact ⟨rfl, rfl, hb2⟩
    | ok oo =>
      have AY := hide (calls_ok IN2 rfl)
      clear IN2
      rcases hk2 with rfl | rfl
      all_goals
        go_enter Tryd.func28, Tryd.ntmps28
        go_wp2_with (go_at_call 46; (with_reducible refine AY.out.mono ?_); rintro e w2 ⟨rfl, hp2, hb2⟩; have HP2 := hide hp2; clear hp2)
        go_end0
        exact ⟨⟨rfl, HP2.out⟩, hb2⟩
mutual
theorem pval_any : ∀ (t : T) (d : Nat), d ≤ 16 → VAL t d
  | .mk k b n s A c l AK cK ks, d, hd => by
    by_cases hk : k = 4 ∨ k = 5
    · exact val_inn _ d hd hk (inn_any _ d hd hk fun A' k' n' b' s' c' l' AK' cK' ks' e x hx e' he => by
        injection e with _ _ _ _ _ _ e7
        subst e7
        exact pvals_any l x hx e' (by omega))
    · exact val_pleaf _ d ⟨fun e => hk (.inl e), fun e => hk (.inr e)⟩
theorem pvals_any : ∀ (l : List T), ∀ x ∈ l, ∀ d, d ≤ 16 → VAL x d
  | [], x, hx, _, _ => by cases hx
  | t :: r, x, hx, d, hd => by
    rcases List.mem_cons.1 hx with h | h
    · rw [h]; exact pval_any t d hd
    · exact pvals_any r x h d hd
end
end Go.Proofs.YtoibfefalflooaaDoor
