/-
  Slices of Columns written over.
-/
import Derived.Test.YtfojdjmeefglcaaDoorFlCol
namespace Go.Proofs.YtfojdjmeefglcaaDoor
open Go.RowKit

theorem spoilColumns_any (l : List Col) (A : Option Addr) (c base : Nat) (w : World) (h : Own w base 49 3 (.slice A l.length c) (l.map Col.cells)) (hl : l.length ≤ 4611686018427387904) :
    Calls Tryd.prog 26 #[.slice A l.length c] w fun e w' => e = .returned (.tuple #[]) ∧ w.grownBy w' (Value.slice A l.length c).ownBlock := by
  obtain ⟨n, hn⟩ : ∃ n, l.length = n := ⟨_, rfl⟩
  rw [hn] at h hl ⊢
  have HN := hide hn; clear hn
  go_enter Tryd.func26, Tryd.ntmps26
  go_wp2
  go_loopw [2] (fun i wr => ∃ (k : Nat) (m : List Col), k ≤ n ∧ i = .int .i64 k ∧ m.length = n ∧ Own wr base 49 3 (.slice A n c) (m.map Col.cells) ∧ w.grownBy wr (Value.slice A n c).ownBlock) (fun i _ => n - (intOf i).toNat)
  case atStart => exact ⟨0, l, Nat.zero_le _, rfl, HN.out, h, World.grownBy.refl w _⟩
  case round =>
    obtain ⟨k, m, hk, rfl, hm, hown, hb⟩ := hrel
    have HB := hide hb; clear hb
    have HM := hide hm; clear hm
    by_cases hlt : k < n
    · obtain ⟨x, hx⟩ : ∃ x, m[k]? = some x := ⟨_, List.getElem?_eq_getElem (by have := HM.out; omega)⟩
      obtain ⟨g, rfl, hg, hgl, hat, hfr, hput⟩ := hown.put (cols_fit _).len (k := k) (j := 2) (cs := x.cells) (by simp [hx]) (by decide)
      obtain ⟨p0, p1, p2⟩ := At.l3 hat
      have hf0 := hfr (k * 3 + 2)
      have HP := hide hput
      have HX := hide hx
      clear hat hfr hput hx hown
      go_wp2
      go_roundw
      case rel =>
        refine ⟨k + 1, m.set k { x with kind := bits .xor .i64 x.kind 90 }, by omega, by go_num, by simp [HM.out], ?_, HB.out.trans (grown_setCell _ _ _ _)⟩
        rw [List.map_set]
        exact HP.out _
      case measure => simp [intOf]; omega
    · go_wp2_with fail
      go_end0
      exact ⟨rfl, HB.out⟩
end Go.Proofs.YtfojdjmeefglcaaDoor
