/-
  The program's printer: add.
-/
import Derived.Test.YtoibfefalflooaaDoorJs
namespace Go.Proofs.YtoibfefalflooaaDoor
open Go.RowKit

set_option maxRecDepth 100000 in
set_option maxHeartbeats 4000000 in
theorem padd_any (g : Nat) (out : List UInt8) (s : ByteArray) (w : World) (h : PrOut w g out) (hs : s.size ≤ 1099511627776) :
    Calls Tryd.prog 42 #[.pointer (some ⟨g, 0, none⟩), .string s] w fun e w' => PrR g (addE out s.data.toList) e w' ∧ Below g w w' := by
  obtain ⟨A, n, c, hb, ho, hn, hn2⟩ := h
  have HB := hide hb; have HO := hide ho; have HN := hide hn
  have hlb := hb.lt
  have q0 := At.z1 hb.at0; have lq := hb.lt; have fq := hb.free
  have hss : s.data.toList.length = s.size := rfl
  clear hb ho hn
  by_cases hl : 65536 < n + s.size
  · have HE : Hid (addE out s.data.toList = .error 302) := addE_long (by rw [HN.out, hss]; exact hl)
    rw [HE.out]
    have hli : ((n + s.size : Nat) : Int) > 65536 := by omega
    go_enter Tryd.func42, Tryd.ntmps42
    go_wp2_with (at_builtin; go_loud (refine wpList_append_str rfl (.tmp 8) (.tmp 9) rfl (base := g + 1) (l := out) rfl HO.out (s := s) rfl (by rw [HN.out]; omega) (by omega) (N := n + s.size) (by rw [HN.out]) ?_; intro A7 c7 w7 hown7 hgr7 hbel7; have HB7 := hide (HB.out.below hbel7 (by omega)); have HL7 := hide (hbel7.mono (by omega : g ≤ g + 1)); clear hown7 hgr7 hbel7 q0 lq fq; have q0 := At.z1 HB7.out.at0; have lq := HB7.out.lt; have fq := HB7.out.free))
    exact ⟨rfl, rfl, HL7.out.setCell (p := ⟨g, 0, none⟩) (by simp) _⟩
  · have HE : Hid (addE out s.data.toList = .ok (out ++ s.data.toList)) := addE_ok (by rw [HN.out, hss]; exact hl)
    rw [HE.out]
    have hli : ¬ ((n + s.size : Nat) : Int) > 65536 := by omega
    go_enter Tryd.func42, Tryd.ntmps42
    go_wp2_with (at_builtin; go_loud (refine wpList_append_str rfl (.tmp 8) (.tmp 9) rfl (base := g + 1) (l := out) rfl HO.out (s := s) rfl (by rw [HN.out]; omega) (by omega) (N := n + s.size) (by rw [HN.out]) ?_; intro A7 c7 w7 hown7 hgr7 hbel7; have HB7 := hide (HB.out.below hbel7 (by omega)); have HL7 := hide (hbel7.mono (by omega : g ≤ g + 1)); have HO7 := hide hown7; clear hown7 hgr7 hbel7 q0 lq fq; have q0 := At.z1 HB7.out.at0; have lq := HB7.out.lt; have fq := HB7.out.free))
    go_end0
    exact ⟨⟨rfl, A7, n + s.size, c7, HB7.out.set_ 0 _, HO7.out.set_other HB7.out (by decide) 0 _, by rw [List.length_append, HN.out]; rfl, by omega⟩, HL7.out.setCell (p := ⟨g, 0, none⟩) (by simp) _⟩
end Go.Proofs.YtoibfefalflooaaDoor
