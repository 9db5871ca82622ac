/-
  The document's Pack: that it answers, and how long a text it gives.
-/
import Derived.Test.YtinpnginjpfbpaaDoorVa
import Derived.Laws.MakeOwn
namespace Go.Proofs.YtinpnginjpfbpaaDoor
open Go.RowKit

def u8c (zs : List Int) : List Value := zs.map (Value.int .u8)
theorem foldl_push_size : ∀ (ns : List Int) (r : ByteArray), (ns.foldl (fun r n => r.push (UInt8.ofNat n.toNat)) r).size = r.size + ns.length
  | [], r => by simp
  | n :: ns, r => by
    rw [List.foldl_cons, foldl_push_size ns]
    simp only [ByteArray.size_push, List.length_cons]
    omega
theorem ints_conv {W : World} {g n cap : Nat} {zs : List Int} (h : Blk W g 5 (u8c zs)) (hn : zs.length = n) : ∃ b : ByteArray, b.size = n ∧ (convert 78 9 (.slice (some ⟨g, 0, none⟩) n cap)).run Tryd.prog W = .ok (.string b) W := by
  subst hn
  refine ⟨_, ?_, (run_convert_bytes_string W 78 9 5 (some ⟨g, 0, none⟩) zs.length cap Tryd.underlying78 Tryd.underlying5 Tryd.underlying9).trans (run_bytesToString W ⟨g, 0, none⟩ zs.length cap zs ?_)⟩
  · rw [foldl_push_size]; simp
  · have hl := run_loadCells_list (P := Tryd.prog) W ⟨g, 0, none⟩ (u8c zs) (fun j v hj => by
      have := h.at0 j v hj
      rw [Go.WideShapes.add_plain]
      simpa using this)
    rw [u8c, List.length_map] at hl
    exact hl
/-- make([]byte, n): bytes that are 0. -/
theorem made_bytes (n : Nat) (hn : n ≤ 100000) : ∃ O : Obj, (∀ w : World, (Instr.makeSlice 78 (.int .i64 (n : Int)) (.int .i64 (n : Int))).run Tryd.prog w = .ok (.slice (some ⟨w.heap.size, 0, none⟩) n n) (w.alloc O)) ∧ ∀ w : World, Blk (w.alloc O) w.heap.size 5 (u8c (List.replicate n 0)) := by
  obtain ⟨ht, ⟨i, z, hi, hz, hs, hby, hzs⟩, _, _⟩ := eiByte
  have hz0 : z = .int .u8 0 := by
    have h : (Tryd.prog.info? 5).map (fun i => i.zero) = some (some (.int .u8 0)) := by kernel_rfl
    rw [hi] at h
    simp only [Option.map_some, Option.some.injEq] at h
    rw [hz] at h
    exact Option.some.inj h
  subst hz0
  have hm : ∀ n : Nat, madeCells (Value.int .u8 0).cells n = (List.replicate n (Value.int .u8 0)).toArray := fun n => by
    apply Array.ext
    · simp [madeCells]
    · intro i h1 h2
      simp [madeCells, Nat.mod_one, Value.cells]
  refine ⟨.cells (u8c (List.replicate n 0)).toArray 5, fun w => ?_, fun w => Blk.new w _ _⟩
  have hr := run_make (P := Tryd.prog) w 78 5 i (.int .u8 0) ht hi hz .i64 .i64 n n (by omega) (Int.le_refl _) (by rw [hby]; omega) (by omega)
  rw [hs] at hr
  simp only [Int.toNat_natCast, Nat.mul_one] at hr
  rw [hm] at hr
  rw [u8c, List.map_replicate]
  exact hr
theorem blk_set {w : World} {g : Nat} {zs : List Int} (h : Blk w g 5 (u8c zs)) (D : Nat) (z : Int) : Blk (w.setCell ⟨g, D, none⟩ (.int .u8 z)) g 5 (u8c (zs.set D z)) := by
  have h_ := h.set_ D (.int .u8 z)
  rw [u8c, List.map_set]
  exact h_
theorem pack_at {n width j q : Nat} (hj : j < n) (hq : q < width) : j * width + q < n * width := by
  have h := Nat.mul_le_mul_right width (Nat.succ_le_of_lt hj)
  rw [Nat.succ_mul] at h
  omega

set_option maxRecDepth 100000 in
set_option maxHeartbeats 8000000 in
theorem pack_any {w0 : World} (xs : List Int) (A : Option Addr) (c width : Nat) (w : World) (h : SlAt w0 w0.heap.size 1 A (intCells xs)) [f0 : Fut w0 w] (hl : xs.length ≤ 4096) (hw : width ≤ 13) (hxs : ∀ x ∈ xs, x ≤ 9223372036854775807) :
    Calls Tryd.prog 49 #[.slice A xs.length c, .int .i64 width] w fun e w' => ∃ (b : ByteArray) (code : Int), e = .returned (.tuple #[.string b, .int .i64 code]) ∧ b.size ≤ 8192 ∧ Step w w' := by
  have z0 := f0.below.size
  obtain ⟨P, hP⟩ : ∃ P, xs.length * width = P := ⟨_, rfl⟩
  have hP1 : P ≤ 53248 := by
    have := Nat.mul_le_mul hl hw
    omega
  have hmul : (xs.length : Int) * (width : Int) = (P : Int) := by rw [← hP]; simp
  obtain ⟨N, hN⟩ : ∃ N, (P + 7) / 8 = N := ⟨_, rfl⟩
  have hN1 : N ≤ 6657 := by omega
  have hNI : ((P : Int) + 7) / 8 = (N : Int) := by omega
  have hq8 : ((P : Int) + 7).tdiv 8 = (N : Int) := by rw [Int.tdiv_eq_ediv_of_nonneg (by omega)]; exact hNI
  obtain ⟨OBJ, hmk, hmb⟩ := made_bytes N (by omega)
  have hw0 : ¬ (width : Int) < 0 := by omega
  have hw1 : ¬ (16 : Int) < (width : Int) := by omega
  have HXS := hide hxs; have HMB := hide hmb; have HP := hide hP; have HN := hide hN
  clear hxs hmb hP hN
  go_enter Tryd.func49, Tryd.ntmps49
  go_wp2_with fail
  obtain ⟨Y, hY⟩ : ∃ Y, Y = w.alloc OBJ := ⟨_, rfl⟩
  obtain ⟨g, hg⟩ : ∃ g, g = w.heap.size := ⟨_, rfl⟩
  have HGY : Hid (Blk Y g 5 (u8c (List.replicate N 0))) := by rw [hY, hg]; exact HMB.out w
  have SY : Step w Y := by rw [hY]; exact Step.of
  have NG : Newer w g := ⟨by omega⟩
  rw [← hY, ← hg]
  clear hY hg hmk hw0 hw1 hmul hNI hq8
  go_loopw [7, 8, 9] (fun i _ _ wr => ∃ (j : Nat) (zs : List Int), j ≤ xs.length ∧ i = .int .i64 j ∧ Hid (zs.length = N) ∧ Blk wr g 5 (u8c zs) ∧ Step w wr) (fun i _ _ _ => xs.length - (intOf i).toNat)
  case atStart => exact ⟨0, List.replicate N 0, Nat.zero_le _, rfl, by show _ = _; simp, HGY.out, SY⟩
  case round =>
    obtain ⟨j, zs, hj, rfl, HZL, hblk, hst⟩ := hrel
    have HB := hide hblk; clear hblk HGY
    obtain ⟨wo, rfl⟩ : ∃ x : World, x = wr := ⟨_, rfl⟩
    have hzo := hst.size
    by_cases hlt : j < xs.length
    · obtain ⟨b, off, rfl, hb, hc⟩ := h.elem (w' := wo) inferInstance (k := j) (by rw [intCells_len]; exact hlt)
      obtain ⟨x, hx⟩ : ∃ x, xs[j]? = some x := ⟨_, List.getElem?_eq_getElem hlt⟩
      have x0 := At.l1 (hc j [.int .i64 x] (by simp [intCells, hx]))
      simp only [Nat.mul_one] at x0
      have lb : b < wo.heap.size := by omega
      have hjl : (j : Int) < (xs.length : Int) := by omega
      have hj0 : (0 : Int) ≤ (j : Int) := by omega
      have hxm := HXS.out x (List.mem_of_getElem? hx)
      have HX := hide hx
      clear hx hc
      by_cases hx0 : x < 0
      · go_wp2_with fail
        go_ret2
        exact ⟨⟨#[]⟩, 601, rfl, by decide, Step.of⟩
      · have WD := hide (width_any x wo hxm)
        go_upto_region 7 with (fail)
        go_wp2_with (go_at_call 64; (with_reducible refine WD.out.mono ?_); rintro e w1 ⟨k, rfl, hk0, _, rfl⟩)
        · go_ret2
          exact ⟨⟨#[]⟩, 601, rfl, by decide, Step.of⟩
        · go_loopw [8, 9] (fun kv _ wr => ∃ (q : Nat) (zs : List Int), q ≤ width ∧ kv = .int .i64 q ∧ Hid (zs.length = N) ∧ Blk wr g 5 (u8c zs) ∧ Step w wr) (fun kv _ _ => width - (intOf kv).toNat)
          case atStart => exact ⟨0, zs, Nat.zero_le _, rfl, HZL, HB.out, Step.of⟩
          case round =>
            obtain ⟨q, zq, hq, rfl, HZQ, hblk2, hst2⟩ := hrel
            have HB2 := hide hblk2; clear hblk2 HB
            obtain ⟨wk, rfl⟩ : ∃ x : World, x = wr := ⟨_, rfl⟩
            have hzk := hst2.size
            by_cases hqw : q < width
            · have hqi : (q : Int) < (width : Int) := by omega
              have hq0 : (0 : Int) ≤ (q : Int) := by omega
              obtain ⟨M, hM⟩ : ∃ M, j * width = M := ⟨_, rfl⟩
              have hMi : (j : Int) * (width : Int) = (M : Int) := by rw [← hM]; simp
              have hMq : M + q < P := by rw [← hM, ← HP.out]; exact pack_at hlt hqw
              have hN8 : (M + q) / 8 < N := by have := HN.out; omega
              have hdiv : ((M : Int) + (q : Int)) / 8 = (((M + q) / 8 : Nat) : Int) := by omega
              have htd : ((M : Int) + (q : Int)).tdiv 8 = (((M + q) / 8 : Nat) : Int) := by rw [Int.tdiv_eq_ediv_of_nonneg (by omega)]; exact hdiv
              obtain ⟨D, hD⟩ : ∃ D, (M + q) / 8 = D := ⟨_, rfl⟩
              rw [hD] at hN8 hdiv htd
              have hDi : (D : Int) < (N : Int) := by omega
              have hD0 : (0 : Int) ≤ (D : Int) := by omega
              obtain ⟨z, hz⟩ : ∃ z, zq[D]? = some z := ⟨_, List.getElem?_eq_getElem (by have := HZQ.out; omega)⟩
              have p0 : wk.cell? ⟨g, D, none⟩ = some (.int .u8 z) := by have := HB2.out.at0 D (.int .u8 z) (by simp [u8c, hz]); simpa using this
              have fg := HB2.out.free D
              have lg := HB2.out.lt
              have x1 : wk.cell? ⟨b, off + j, none⟩ = some (.int .i64 x) := by
                obtain ⟨b', off', e_, hb', hc'⟩ := h.elem (w' := wk) inferInstance (k := j) (by rw [intCells_len]; exact hlt)
                cases e_
                have := At.l1 (hc' j [.int .i64 x] (by simp [intCells, HX.out]))
                simpa using this
              have lb2 : b < wk.heap.size := by omega
              clear hz hM hD x0 lb
              go_wp2
              go_region
              go_wp2_with fail
              go_roundw
              case rel => exact ⟨q + 1, zq.set D _, by omega, by go_num, by show _ = _; rw [List.length_set]; exact HZQ.out, blk_set HB2.out.fut D _, ⟨(Below.setCell (p := ⟨g, D, none⟩) (fut w wk) NG.le _).drew⟩⟩
              case measure => simp [intOf]; omega
            · obtain rfl : q = width := by omega
              go_wp2_with fail
              go_roundw
              case rel => exact ⟨j + 1, zq, by omega, by go_num, HZQ, HB2.out, Step.of⟩
              case measure => simp [intOf]; omega
    · obtain rfl : j = xs.length := by omega
      obtain ⟨b, hb, hcv⟩ := ints_conv (cap := N) HB.out HZL.out
      go_wp2_with fail
      go_ret2
      exact ⟨b, 0, rfl, by omega, Step.of⟩
end Go.Proofs.YtinpnginjpfbpaaDoor
