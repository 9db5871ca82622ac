import Derived.Test.YtinpnginjpfbpaaDoorA
import Derived.Test.YtinpnginjpfbpaaDoorTrim
namespace Go.Proofs.YtinpnginjpfbpaaDoor
open Go.RowKit Go.Shelf Go.Lib

theorem dropWhile_nil {α : Type} (p : α → Bool) : ∀ l : List α, (l.dropWhile p = [] ↔ l.all p = true)
  | [] => by simp
  | x :: r => by
    cases h : p x with
    | true => simpa [h] using dropWhile_nil p r
    | false => simp [h]
theorem dw_all {α : Type} (p : α → Bool) : ∀ l : List α, (l.dropWhile p).all p = true → l.dropWhile p = []
  | [], _ => rfl
  | x :: r, h => by
    cases hx : p x with
    | true => simp only [List.dropWhile_cons, hx, if_true] at h ⊢; exact dw_all p r h
    | false => simp [hx] at h
theorem trimS_nil (l cs : List UInt8) : (Lib.trimS l cs).isEmpty = l.all (cs.contains ·) := by
  rw [Bool.eq_iff_iff, List.isEmpty_iff]
  unfold Lib.trimS Lib.trimLeftS Lib.trimRightS
  rw [dropWhile_nil]
  constructor
  · intro h
    have h2 : (l.reverse.dropWhile (cs.contains ·)) = [] := dw_all _ _ (by rw [List.all_reverse] at h; exact h)
    have h3 := (dropWhile_nil _ _).1 h2
    rw [List.all_reverse] at h3
    exact h3
  · intro h
    have h2 : (l.reverse.dropWhile (cs.contains ·)) = [] := (dropWhile_nil _ _).2 (by rw [List.all_reverse]; exact h)
    rw [h2]
    rfl

theorem trim_any (s : ByteArray) (w : World) (hs : s.size ≤ 9223372036854775807) :
    Calls Tryd.prog 44 #[.string s, .string ⟨#[97, 98, 99, 100, 101, 102, 103, 104, 105, 106, 107, 108, 109, 110, 111, 112, 113, 114, 115, 116, 117, 118, 119, 120, 121, 122, 48, 49, 50, 51, 52, 53, 54, 55, 56, 57, 95]⟩] w fun e w' =>
      ∃ r : ByteArray, r.toList.isEmpty = s.data.toList.all (nameSet.contains ·) ∧ e = .returned (.string r) ∧ Below w.heap.size w w' := by
  have hcon := Any.strings_Trim_laid Tryd.lays160 (by kernel_rfl) s ⟨#[97, 98, 99, 100, 101, 102, 103, 104, 105, 106, 107, 108, 109, 110, 111, 112, 113, 114, 115, 116, 117, 118, 119, 120, 121, 122, 48, 49, 50, 51, 52, 53, 54, 55, 56, 57, 95]⟩ w hs (by decide) (ascii_of_all (by decide))
  refine Calls.mono hcon fun e w' ⟨he, hb⟩ => ⟨_, ?_, he, hb⟩
  rw [ByteArray.toList_mk, trimS_nil]
  rfl

theorem name_any (s : ByteArray) (w : World) (hs : s.size ≤ 9223372036854775807) :
    Calls Tryd.prog 35 #[.string s] w fun e w' => e = .returned (.bool (nameB s)) ∧ Below w.heap.size w w' := by
  by_cases h1 : 1 ≤ s.size
  · by_cases h2 : s.size ≤ 16
    · go_enter Tryd.func35, Tryd.ntmps35
      go_wp2_with (go_at_call 44; refine (trim_any s _ hs).mono ?_; rintro e w' ⟨r, hr, rfl, hB⟩; have HR := Lib.hid hr; clear hr)
      go_ret
      exact ⟨ret_bool (by simp only [nameB, ← HR.out]; simp [h1, h2]), hB⟩
    · have h3 : 16 < s.size := by omega
      clear h2
      go_enter Tryd.func35, Tryd.ntmps35
      go_wp2
      go_ret
      exact ⟨ret_bool (by simp [nameB]; omega), Below.refl _ _⟩
  · have h3 : s.size = 0 := by omega
    clear h1
    go_enter Tryd.func35, Tryd.ntmps35
    go_wp2
    go_ret
    exact ⟨ret_bool (by simp [nameB, h3]), Below.refl _ _⟩
end Go.Proofs.YtinpnginjpfbpaaDoor
