/-
  The document's Clean.
-/
import Derived.Test.YtinpnginjpfbpaaDoorV
namespace Go.Proofs.YtinpnginjpfbpaaDoor
open Go.RowKit

set_option maxHeartbeats 1000000 in
theorem vclean_any (v : Val) (w : World) : Calls Tryd.prog 25 #[v.val] w fun e w' => e = .returned (clean v).val ∧ Step w w' := by
  have hk := vkind_any v
  obtain ⟨k0, k3⟩ := kindV_bd v
  have hcs : kindV v = 1 ∨ kindV v = 2 ∨ kindV v = 3 ∨ kindV v = 0 := by omega
  obtain ⟨k, i, b, s⟩ := v
  rcases hcs with h | h | h | h
  · rw [h] at hk
    have HC : Hid ((clean ⟨k, i, b, s⟩).val = .agg #[.int .i64 1, .int .i64 i, .bool false, .string ⟨#[]⟩]) := by
      show _ = _
      unfold kindV at h
      have hk' : k = 1 := by simp only at h; split at h <;> omega
      simp [clean, Val.val, hk']
      try rfl
    have HK := hide hk; clear hk h k0 k3
    unfold Val.val at HK
    rw [HC.out]
    unfold Val.val
    go_enter Tryd.func25, Tryd.ntmps25
    go_wp2_with fail
    refine (HK.out _).mono ?_
    rintro e w1 ⟨rfl, hs⟩
    obtain ⟨hc, hf⟩ := hs.reads
    have hz := hs.size
    simp only [hsz] at hz
    have z0 : w.heap.size < w1.heap.size := by omega
    have z1 : w.heap.size + 1 < w1.heap.size := by omega
    go_wp2_with fail
    refine bodyPost_ret (v := .agg #[.int .i64 1, .int .i64 i, .bool false, .string ⟨#[]⟩]) (by simp [results, Tryd.results25, go_sem, hc]) rfl ⟨rfl, Step.of⟩
  · rw [h] at hk
    have HC : Hid ((clean ⟨k, i, b, s⟩).val = .agg #[.int .i64 2, .int .i64 0, .bool b, .string ⟨#[]⟩]) := by
      show _ = _
      unfold kindV at h
      have hk' : k = 2 := by simp only at h; split at h <;> omega
      simp [clean, Val.val, hk']
      try rfl
    have HK := hide hk; clear hk h k0 k3
    unfold Val.val at HK
    rw [HC.out]
    unfold Val.val
    go_enter Tryd.func25, Tryd.ntmps25
    go_wp2_with fail
    refine (HK.out _).mono ?_
    rintro e w1 ⟨rfl, hs⟩
    obtain ⟨hc, hf⟩ := hs.reads
    have hz := hs.size
    simp only [hsz] at hz
    have z0 : w.heap.size < w1.heap.size := by omega
    have z1 : w.heap.size + 1 < w1.heap.size := by omega
    go_wp2_with fail
    refine bodyPost_ret (v := .agg #[.int .i64 2, .int .i64 0, .bool b, .string ⟨#[]⟩]) (by simp [results, Tryd.results25, go_sem, hc]) rfl ⟨rfl, Step.of⟩
  · rw [h] at hk
    have HC : Hid ((clean ⟨k, i, b, s⟩).val = .agg #[.int .i64 3, .int .i64 0, .bool false, .string s]) := by
      show _ = _
      unfold kindV at h
      have hk' : k = 3 := by simp only at h; split at h <;> omega
      simp [clean, Val.val, hk']
      try rfl
    have HK := hide hk; clear hk h k0 k3
    unfold Val.val at HK
    rw [HC.out]
    unfold Val.val
    go_enter Tryd.func25, Tryd.ntmps25
    go_wp2_with fail
    refine (HK.out _).mono ?_
    rintro e w1 ⟨rfl, hs⟩
    obtain ⟨hc, hf⟩ := hs.reads
    have hz := hs.size
    simp only [hsz] at hz
    have z0 : w.heap.size < w1.heap.size := by omega
    have z1 : w.heap.size + 1 < w1.heap.size := by omega
    go_wp2_with fail
    refine bodyPost_ret (v := .agg #[.int .i64 3, .int .i64 0, .bool false, .string s]) (by simp [results, Tryd.results25, go_sem, hc]) rfl ⟨rfl, Step.of⟩
  · rw [h] at hk
    have HC : Hid ((clean ⟨k, i, b, s⟩).val = .agg #[.int .i64 0, .int .i64 0, .bool false, .string ⟨#[]⟩]) := by
      show _ = _
      unfold kindV at h
      have hk' : k ≠ 1 ∧ k ≠ 2 ∧ k ≠ 3 := by simp only at h; split at h <;> omega
      simp [clean, Val.val, Val.zero, hk']
      try rfl
    have HK := hide hk; clear hk h k0 k3
    unfold Val.val at HK
    rw [HC.out]
    unfold Val.val
    go_enter Tryd.func25, Tryd.ntmps25
    go_wp2_with fail
    refine (HK.out _).mono ?_
    rintro e w1 ⟨rfl, hs⟩
    obtain ⟨hc, hf⟩ := hs.reads
    have hz := hs.size
    simp only [hsz] at hz
    have z0 : w.heap.size < w1.heap.size := by omega
    have z1 : w.heap.size + 1 < w1.heap.size := by omega
    go_wp2_with fail
    refine bodyPost_ret (v := .agg #[.int .i64 0, .int .i64 0, .bool false, .string ⟨#[]⟩]) (by simp [results, Tryd.results25, go_sem, hc]) rfl ⟨rfl, Step.of⟩

end Go.Proofs.YtinpnginjpfbpaaDoor
