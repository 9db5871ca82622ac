/-
  container/heap's Init and Pop over a pile.
-/
import Derived.Test.YtafgfehjdbomfaaDoorHd
namespace Go.Proofs.YtafgfehjdbomfaaDoor
open Go.RowKit

set_option maxRecDepth 100000 in
set_option maxHeartbeats 4000000 in
theorem pinit_any {w0 : World} (gp N c : Nat) (A : Option Addr) (rs : List RowA) (w : World) [f0 : Fut w0 w] (hl : rs.length = N) (hN : N ≤ 5864062014634) (ho : OwnR w w0.heap.size A N c rs) (hp : Blk w gp 90 [.slice A N c]) (hf : ∀ r ∈ rs, FineR r) :
    Calls Tryd.prog 44 #[.iface 92 (.pointer (some ⟨gp, 0, none⟩))] w fun e w' => e = .returned (.tuple #[]) ∧ ∃ ls : List RowA, ls.length = N ∧ ls.Perm rs ∧ HeapFrom ltA ls N 0 ∧ OwnR w' w0.heap.size A N c ls ∧ Blk w' gp 90 [.slice A N c] ∧ Only w w' gp (Value.slice A N c).ownBlock ∧ Step w0 w' := by
  have HF := hide hf; have HL0 := hide hl; have HO0 := hide ho; have HB0 := hide hp
  have p0 := At.z1 hp.at0
  have lp0 := hp.lt
  have ml := m_len gp N c A w p0
  have hdv : ∃ m : Nat, (N : Int) / 2 = (m : Int) ∧ N ≤ 2 * m + 1 ∧ m ≤ N := ⟨N / 2, by omega, by omega, by omega⟩
  obtain ⟨m0, e0, hm1, hm2⟩ := hdv
  have hN0 : (0 : Int) ≤ (N : Int) := by omega
  clear hf hl ho hp
  go_enter Tryd.func44, Tryd.ntmps44
  go_wp2_with (go_at_call 45; refine (plen_any A N c _).mono ?_; rintro e w_ ⟨rfl, rfl⟩)
  clear ml p0 lp0
  go_loopw [3] (fun iv wr => ∃ (m : Nat) (ls : List RowA), m ≤ N ∧ iv = .int .i64 ((m : Int) - 1) ∧ Hid (ls.length = N) ∧ ls.Perm rs ∧ HeapFrom ltA ls N m ∧ OwnR wr w0.heap.size A N c ls ∧ Blk wr gp 90 [.slice A N c] ∧ Only w wr gp (Value.slice A N c).ownBlock ∧ Step w0 wr) (fun iv _ => (intOf iv + 1).toNat)
  case atStart => exact ⟨m0, rs, hm2, by first | rfl | (simp only [Value.int.injEq, true_and]; omega), HL0.out, List.Perm.refl _, heap_leaf hm1, HO0.out, HB0.out, Only.refl _ _ _, ⟨f0.below⟩⟩
  case round =>
    obtain ⟨m, ls, hmN, rfl, HLN, hpe, hhf, how, hbp, hon, hst⟩ := hrel
    have HPE := hide hpe; have HHF := hide hhf; have HO := hide how; have HB := hide hbp; have HON := hide hon
    clear hpe hhf how hbp hon HO0 HB0
    obtain ⟨wo, rfl⟩ : ∃ x : World, x = wr := ⟨_, rfl⟩
    have hzo := hst.size
    rcases Nat.eq_zero_or_pos m with e | e
    · subst e
      have en : ((0 : Nat) : Int) - 1 = -1 := by omega
      rw [en]
      go_wp2_with fail
      go_end0
      exact ⟨rfl, ls, HLN.out, HPE.out, HHF.out, HO.out.fut, HB.out.fut, HON.out.trans (Only.below (fut wo _)), Step.of⟩
    · obtain ⟨k, rfl⟩ : ∃ k, m = k + 1 := ⟨m - 1, by omega⟩
      have en : ((k + 1 : Nat) : Int) - 1 = (k : Int) := by omega
      rw [en]
      have hk0 : (0 : Int) ≤ (k : Int) := by omega
      have hkN : (k : Int) < 5864062014634 := by omega
      have PD := hide (pdown_any (w0 := w0) gp N c k N A ls wo HLN.out hN (Nat.le_refl _) (by omega) HO.out HB.out (heap_but HHF.out) (fun r hr => HF.out r (HPE.out.mem_iff.1 hr)))
      go_wp2_with (go_at_call 81; (with_reducible refine PD.out.mono ?_); rintro e w5 ⟨⟨b5, rfl⟩, ls5, hl5, hp5, _, hh5, ho5, hb5, hon5, hs5⟩; have HL5 := hide hl5; have HP5 := hide hp5; have HH5 := hide hh5; have HO5 := hide ho5; have HB5 := hide hb5; have HON5 := hide hon5; clear hl5 hp5 hh5 ho5 hb5 hon5)
      go_roundw
      case rel => exact ⟨k, ls5, by omega, by rfl, HL5.out, HP5.out.trans HPE.out, HH5.out, HO5.out, HB5.out, HON.out.trans HON5.out, hs5⟩
      case measure => simp [intOf]

set_option maxRecDepth 100000 in
set_option maxHeartbeats 4000000 in
theorem phpop_any {w0 : World} (gp n c : Nat) (A : Option Addr) (rs : List RowA) (w : World) [f0 : Fut w0 w] (hl : rs.length = n + 1) (hN : n + 1 ≤ 5864062014634) (hg : w0.heap.size ≤ gp) (ho : OwnR w w0.heap.size A (n + 1) c rs) (hp : Blk w gp 90 [.slice A (n + 1) c]) (hh : HeapFrom ltA rs (n + 1) 0) (hf : ∀ r ∈ rs, FineR r) :
    Calls Tryd.prog 46 #[.iface 92 (.pointer (some ⟨gp, 0, none⟩))] w fun e w' => ∃ (x : RowA) (ls : List RowA), e = .returned (.iface 54 (.agg #[x.sl])) ∧ ls.length = n ∧ rs.Perm (ls ++ [x]) ∧ (∀ y ∈ rs, ltA y x = false) ∧ HeapFrom ltA ls n 0 ∧ OwnR w' w0.heap.size A n c ls ∧ Own w' w0.heap.size 57 4 (.slice x.A x.vs.length x.cap) (x.vs.map Val.cells) ∧ Blk w' gp 90 [.slice A n c] ∧ Only w w' gp (Value.slice A (n + 1) c).ownBlock ∧ Step w0 w' := by
  have HF := hide hf; have HL0 := hide hl; have HO := hide ho; have HB := hide hp; have HH := hide hh
  obtain ⟨x, hx⟩ : ∃ x, rs[0]? = some x := ⟨_, List.getElem?_eq_getElem (by omega)⟩
  obtain ⟨y, hy⟩ : ∃ y, rs[n]? = some y := ⟨_, List.getElem?_eq_getElem (by omega)⟩
  have HX := hide hx; have HY := hide hy
  have hmin := heap_least weakA (by rw [hl]; exact hh) hx
  have HMN := hide hmin
  have p0 := At.z1 hp.at0
  have lp0 := hp.lt
  have ml := m_len gp (n + 1) c A w p0
  have ms := m_swap gp (n + 1) c A w p0
  have PSW := pswap_any rs A c 0 n x y w (by rw [hl]; exact ho) hx hy
  have e00 : ((0 : Nat) : Int) = 0 := rfl
  rw [hl, e00] at PSW
  have PSW := hide PSW
  have z0 := f0.below.size
  have hl1 : (swp rs 0 n x y).length = n + 1 := by rw [swp_len]; exact hl
  have HL1 := hide hl1
  have HB1_ := hide (heap_pop hh hx hy)
  have PM := hide (swp_perm hx hy)
  have mp := m_pop gp
  have HXN : Hid ((swp rs 0 n x y)[n]? = some x) := by show _ = _; rw [swp_get hx hy, if_pos rfl]
  clear hf hl ho hp hh hx hy hmin hl1
  have hn0 : (0 : Int) ≤ (n : Int) := by omega
  have hnN : (n : Int) < 5864062014634 := by omega
  go_enter Tryd.func46, Tryd.ntmps46
  go_upto_region 3 with (first
    | (go_at_call 45; refine (plen_any A (n + 1) c _).mono ?_; rintro e w_ ⟨rfl, rfl⟩)
    | (go_at_call 150; (with_reducible refine PSW.out.mono ?_); rintro e w1 ⟨rfl, ho1, hg1⟩; have HO1 := hide ho1; have HG1 := hide hg1; clear ho1 hg1))
  have HB1 := hide (HB.out.grown HG1.out (HO.out.out.ne_ HB.out (by decide)))
  have hs1 : Step w0 w1 := ⟨f0.below.trans (below_of_grown HO.out.out HG1.out z0)⟩
  have PD := pdown_any (w0 := w0) gp (n + 1) c 0 n A (swp rs 0 n x y) w1 HL1.out hN (by omega) (by omega) HO1.out HB1.out HB1_.out (fun r hr => HF.out r (PM.out.mem_iff.1 hr))
  rw [e00] at PD
  have PD := hide PD
  clear ml ms p0 lp0
  go_upto_region 4 with (go_at_call 81; (with_reducible refine PD.out.mono ?_); rintro e w2 ⟨⟨b2, rfl⟩, ls2, hl2, hp2, ht2, hh2, ho2, hb2, hon2, hs2⟩; have HL2 := hide hl2; have HP2 := hide hp2; have HT2 := hide ht2; have HH2 := hide hh2; have HO2 := hide ho2; have HB2 := hide hb2; have HON2 := hide hon2; clear hl2 hp2 ht2 hh2 ho2 hb2 hon2)
  have HX2 : Hid (ls2[n]? = some x) := by show _ = _; rw [HT2.out n (Nat.le_refl _)]; exact HXN.out
  have PP_ := hide (ppop_any gp n c A ls2 x w2 HB2.out HO2.out HL2.out HX2.out (by omega))
  go_wp2_with (go_at_call 152; (with_reducible refine PP_.out.mono ?_); rintro e w3 ⟨rfl, hb3, ho3, hg3⟩; have HB3 := hide hb3; have HO3 := hide ho3; have HG3 := hide hg3; clear hb3 ho3 hg3)
  have hs3 : Step w0 w3 := ⟨(fut w0 w2).grown HG3.out (fut w0 w2).size (by rintro k ⟨⟩; exact hg)⟩
  have HT3 := hide (row_takes HL2.out HX2.out)
  go_ret
  exact ⟨x, ls2.take n, rfl, by rw [List.length_take, HL2.out]; omega, by rw [← HT3.out]; exact PM.out.symm.trans HP2.out.symm, HMN.out, heap_take HH2.out, HO3.out, (HO2.out.grownP HB2.out HG3.out).rows x (List.mem_of_getElem? HX2.out), HB3.out, ((Only.grown HG1.out).trans HON2.out).trans (Only.grownP HG3.out), hs3⟩
end Go.Proofs.YtafgfehjdbomfaaDoor
