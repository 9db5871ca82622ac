/-
  Finding a column's statistics, a spec's field.
-/
import Derived.Test.YtafgfehjdbomfaaDoorTa
namespace Go.Proofs.YtafgfehjdbomfaaDoor
open Go.RowKit

set_option maxHeartbeats 4000000 in
theorem indexFuncSta_any {w0 : World} (f : FuncId) (caps : Array Value) (p : Sta → Bool) (A : Option Addr) (cap : Nat) (l : List Sta) (w : World)
    (hB : l.length ≤ 4611686018427387904) (hat : SlAt w0 w0.heap.size 10 A (l.map Sta.cells)) [hf0 : Fut w0 w]
    (hcall : ∀ args w, (callFunc f args).run Tryd.prog w = .ok (.enter f args) w)
    (hf : ∀ c ∈ l, ∀ w' [Fut w w'], Calls Tryd.prog f (#[.agg #[.int .i64 c.col, .int .i64 c.nulls, .int .i64 c.mn.kind, .int .i64 c.mn.i, .bool c.mn.b, .string c.mn.s, .int .i64 c.mx.kind, .int .i64 c.mx.i, .bool c.mx.b, .string c.mx.s]] ++ caps) w' fun e w'' => e = .returned (.bool (p c)) ∧ Step w' w'') :
    Calls Tryd.prog 55 #[.slice A l.length cap, .func (.func f) #[] caps] w fun e w' =>
      e = .returned (.int .i64 (idx p l)) ∧ Step w w' := by
  have HF := Lib.hid hf; clear hf
  have hz := hf0.below.size
  go_enter Tryd.func55, Tryd.ntmps55
  go_wp2
  go_loopw [8] (fun i wr => ∃ k : Nat, k ≤ l.length ∧ i = .int .i64 k ∧ k ≤ l.findIdx p ∧ Step w wr) (fun i _ => l.length - (intOf i).toNat)
  case atStart => exact ⟨0, Nat.zero_le _, rfl, Nat.zero_le _, Step.of⟩
  case round =>
    obtain ⟨k, hk, rfl, hfi, hst⟩ := hrel
    obtain ⟨wo, rfl⟩ : ∃ x : World, x = wr := ⟨_, rfl⟩
    have hzo := hst.size
    by_cases hlt : k < l.length
    · obtain ⟨b, off, rfl, hb, hc⟩ := hat.elem (w' := wo) inferInstance (k := k) (by simpa using hlt)
      have hck := hc k l[k].cells (by simp [hlt])
      obtain ⟨h0, h1, h2, h3, h4, h5, h6, h7, h8, h9⟩ := At.l10 hck
      have hlb : b < wo.heap.size := by omega
      have HC := HF.out l[k] (List.getElem_mem hlt) wo
      have HC' := Lib.hid HC; clear HC hc hck
      cases hp : p l[k] with
      | true =>
        have Hp := Lib.hid hp; clear hp
        go_wp2_with (refine HC'.out.mono ?_; rintro e w' ⟨rfl, hs⟩; rw [Hp.out])
        go_ret
        have e : l.findIdx p = k := fi_hit p l k hlt hfi Hp.out
        exact ⟨ret_int (by simp [idx, e, hlt]), Step.of⟩
      | false =>
        have Hp := Lib.hid hp; clear hp
        go_wp2_with (refine HC'.out.mono ?_; rintro e w' ⟨rfl, hs⟩; rw [Hp.out])
        go_roundw
        case rel => exact ⟨k + 1, by omega, by go_num, fi_miss p l k hlt hfi Hp.out, Step.of⟩
        case measure => simp [intOf]; omega
    · go_wp2_with fail
      go_ret
      exact ⟨ret_int (by rw [idx, if_neg (by omega)]), Step.of⟩
theorem containsFuncSta_any {w0 : World} (f : FuncId) (caps : Array Value) (p : Sta → Bool) (A : Option Addr) (cap : Nat) (l : List Sta) (w : World)
    (hB : l.length ≤ 4611686018427387904) (hat : SlAt w0 w0.heap.size 10 A (l.map Sta.cells)) [hf0 : Fut w0 w]
    (hcall : ∀ args w, (callFunc f args).run Tryd.prog w = .ok (.enter f args) w)
    (hf : ∀ c ∈ l, ∀ w' [Fut w w'], Calls Tryd.prog f (#[.agg #[.int .i64 c.col, .int .i64 c.nulls, .int .i64 c.mn.kind, .int .i64 c.mn.i, .bool c.mn.b, .string c.mn.s, .int .i64 c.mx.kind, .int .i64 c.mx.i, .bool c.mx.b, .string c.mx.s]] ++ caps) w' fun e w'' => e = .returned (.bool (p c)) ∧ Step w' w'') :
    Calls Tryd.prog 50 #[.slice A l.length cap, .func (.func f) #[] caps] w fun e w' =>
      e = .returned (.bool (l.any p)) ∧ Step w w' := by
  have C := hide (indexFuncSta_any f caps p A cap l w hB hat hcall hf)
  have HA := hide (idx_any p l)
  clear hf hcall hat
  rw [← HA.out]
  clear HA
  obtain ⟨r, hr⟩ : ∃ r, idx p l = r := ⟨_, rfl⟩
  rw [hr] at C
  rw [hr]
  clear hr
  go_enter Tryd.func50, Tryd.ntmps50
  go_wp2_with (refine C.out.mono ?_; rintro e w' ⟨rfl, hs⟩)
  go_ret
  exact ⟨rfl, Step.of⟩
end Go.Proofs.YtafgfehjdbomfaaDoor
