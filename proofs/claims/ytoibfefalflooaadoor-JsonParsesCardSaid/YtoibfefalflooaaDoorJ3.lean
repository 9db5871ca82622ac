/-
  Parse, Get, whole; awake.
-/
import Derived.Test.YtoibfefalflooaaDoorJ1
import Derived.Test.YtoibfefalflooaaDoorJ2
namespace Go.Proofs.YtoibfefalflooaaDoor
open Go.RowKit

theorem jparse_any (s : ByteArray) (w : World) (hm : s.size ≤ 9223372036854775807) : Calls Tryd.prog 10 #[.string s] w (ParseR w (parseP s)) := by
  by_cases hs : 65536 < s.size
  · exact parse_long s w hs hm
  · cases hv : valP s 16 (whiteE s 0) with
    | error e =>
      rw [parseP, if_neg hs, hv]
      exact parse_err s w (by omega) e (by have := val_err s _ _ _ hv; omega) hv
    | ok p =>
      obtain ⟨j, i⟩ := p
      rw [parseP, if_neg hs, hv]
      by_cases hne : whiteE s i = s.size
      · simp only [if_pos hne]
        exact parse_ok s w (by omega) j i hv hne
      · simp only [if_neg hne]
        exact parse_rest s w (by omega) j i hv hne
theorem jget_any (t : T) (key : ByteArray) (w : World) (hrd : RdT w t) : Calls Tryd.prog 17 #[.agg t.cells.toArray, .string key] w (GetR w (getP t.j key)) := by
  cases t with
  | mk k b n s A c l AK cK ks =>
    rw [RdT] at hrd
    obtain ⟨hA, hAK, ⟨h1, h2⟩, _, _, _, hrs⟩ := hrd
    exact get_of k b n s A l.length c l AK ks.length cK ks rfl rfl key w hA hrs hAK h2 _ rfl
end Go.Proofs.YtoibfefalflooaaDoor
