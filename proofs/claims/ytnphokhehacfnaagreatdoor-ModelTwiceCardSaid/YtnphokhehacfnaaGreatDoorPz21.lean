/-
  Texts put together: Ds, Dt, Du, Dv, Dw, Xa.
-/
import Derived.Test.YtnphokhehacfnaaGreatDoorPz00
import Derived.Test.YtnphokhehacfnaaGreatDoorPz08
import Derived.Test.YtnphokhehacfnaaGreatDoorPz20
namespace Go.Proofs.YtnphokhehacfnaaGreatDoor
open Go.RowKit

def yesV (ns : List Nod) (s : Sch) (vs : List Val) : Bool := (truthR ns s vs).1 == 1
theorem getD_at {vss : List (List Val)} {k : Nat} (h : k < vss.length) : vss[k]? = some (vss.getD k []) := by
  rw [List.getD_eq_getElem?_getD, List.getElem?_eq_getElem h]
  rfl
theorem yes_filter (ns : List Nod) (s : Sch) (vss : List (List Val)) : ∀ k, k ≤ vss.length → (yesTo ns s vss k).map (fun x => vss.getD x.toNat []) = (vss.take k).filter (yesV ns s)
  | 0, _ => rfl
  | k + 1, h => by
    rw [yesTo, List.take_add_one, getD_at (by omega), Option.toList_some, List.filter_append]
    have ih := yes_filter ns s vss k (by omega)
    by_cases hy : (truthR ns s (vss.getD k [])).1 = 1
    · rw [if_pos hy, List.map_append, ih, List.filter_cons, if_pos (by rw [yesV, hy]; rfl)]
      simp
    · rw [if_neg hy, ih, List.filter_cons, if_neg (by rw [yesV, beq_iff_eq]; exact hy)]
      simp
theorem yes_bds (ns : List Nod) (s : Sch) (vss : List (List Val)) (k : Nat) : ∀ x ∈ yesTo ns s vss k, 0 ≤ x ∧ x < (k : Int) := by
  intro x hx
  obtain ⟨i, hi, rfl, _⟩ := yes_mem.1 hx
  omega
theorem take_of {vss : List (List Val)} {l : List Int} (h : ∀ x ∈ l, 0 ≤ x ∧ x < (vss.length : Int)) : (takeR vss l).1 = (l.map fun x => vss.getD x.toNat []).map (List.map clean) := by
  rw [takeR, if_pos (take_ok h)]
  simp [takeTo]
/-- A table of numbers. -/
def row2 (x : Int) : List Val := [kv25 x, Val.zero]
def tab2 (ys : List Int) : Tb := ⟨sb25, 0, [], ys.map row2⟩
theorem row2_clean (x : Int) : (row2 x).map clean = row2 x := rfl
theorem row2_may (x : Int) : rowW sb25.cols (row2 x) = true := by
  unfold rowW
  rw [Bool.and_eq_true]
  refine ⟨rfl, wholeUpto_iff.2 fun i hi c v hc hv => ?_⟩
  match i with
  | 0 => cases hc; cases hv; exact kv_whole x
  | 1 => cases hc; cases hv; exact zero_whole3
  | n + 2 => exact absurd hi (by show ¬ n + 2 < 2; omega)
theorem tab2_may {ys : List Int} (h : ys.length ≤ 20) : tabB (tab2 ys) = true := by
  rw [tabB_iff]
  refine ⟨fil_1, fil_3, by simp [tab2]; omega, ?_⟩
  rw [List.all_eq_true]
  intro vs hvs
  obtain ⟨x, _, rfl⟩ := List.mem_map.1 hvs
  exact row2_may x
theorem row2_ok (x : Int) : rowB sb25 (row2 x) = true := by kernel_rfl
theorem rows2_ok (ys : List Int) (k : Nat) : rowsOk sb25 (ys.map row2) k = true := by
  unfold rowsOk
  rw [List.all_eq_true]
  intro vs hvs
  obtain ⟨x, _, rfl⟩ := List.mem_map.1 (List.mem_of_mem_take hvs)
  exact row2_ok x
def yesN (ns : List Nod) (x : Int) : Bool := yesV ns sb25 (row2 x)
theorem sel2 {ns : List Nod} {ys : List Int} (hc : checkE ns sb25 = 0) : selR ns sb25 (ys.map row2) = (yesTo ns sb25 (ys.map row2) (ys.map row2).length, 0) := by
  rw [selR, if_neg (by omega), if_pos (rows2_ok ys _)]
theorem filt2 (p : List Val → Bool) (ys : List Int) : (ys.map row2).filter p = (ys.filter fun x => p (row2 x)).map row2 := by
  rw [List.filter_map]
  rfl
theorem clean2 (ys : List Int) : (ys.map row2).map (List.map clean) = ys.map row2 := by
  rw [List.map_map]
  exact List.map_congr_left fun x _ => row2_clean x
theorem taken2 {ns : List Nod} {ys : List Int} (hc : checkE ns sb25 = 0) : (takeR (ys.map row2) (selR ns sb25 (ys.map row2)).1).1 = (ys.filter (yesN ns)).map row2 := by
  rw [sel2 hc]
  rw [take_of (yes_bds ns sb25 (ys.map row2) _), yes_filter _ _ _ _ (Nat.le_refl _), List.take_length, filt2, clean2]
  rfl
theorem nulls2 (ys : List Int) : nullsP ((ys.map kv25).map clean) = 0 := by
  unfold nullsP
  rw [List.countP_eq_zero]
  intro v hv
  obtain ⟨u, hu, rfl⟩ := List.mem_map.1 hv
  obtain ⟨x, _, rfl⟩ := List.mem_map.1 hu
  rw [kv_clean, show kindV (kv25 x) = 1 from rfl]
  decide
/-- A count of the numbers that a predicate takes. -/
def opCount (ns : List Nod) : Opp := ⟨9, [], [], ns, ⟨#[97]⟩, ⟨#[]⟩, 0, ⟨0, 0, false, ⟨#[]⟩⟩, [], 1⟩
def opDel (ns : List Nod) : Opp := ⟨1, [], [], ns, ⟨#[]⟩, ⟨#[]⟩, 0, ⟨0, 0, false, ⟨#[]⟩⟩, [], 0⟩
theorem count2 {ns : List Nod} {ys : List Int} (hp : predB ns = true) (hc : checkE ns sb25 = 0) (hl : ys.length ≤ 20) : readT (tab2 ys) (opCount ns) = (0, kv25 ((ys.filter (yesN ns)).length : Int)) := by
  have ht := tab2_may hl
  have hr : readA (tab2 ys) (opCount ns) = .ok (kv25 ((ys.filter (yesN ns)).length : Int)) := by
    rw [read_eq, if_neg (by
      rintro (h | h | h | h)
      · exact h rfl
      · rw [show (opCount ns).ns = ns from rfl, hp] at h; cases h
      · exact absurd h (by show ¬ (1 : Int) < 0; omega)
      · exact absurd h (by show ¬ (4 : Int) < 1; omega))]
    rw [show yesP (tab2 ys) (opCount ns).ns = .ok (selR ns sb25 (ys.map row2)).1 by rw [yesP, if_neg (show ¬ checkE (opCount ns).ns (tab2 ys).s ≠ 0 from fun h => h hc)]; rfl]
    show readB (tab2 ys) (opCount ns) (selR ns sb25 (ys.map row2)).1 = _
    rw [readB, if_neg (by show ¬ ([] : List ByteArray).all _ = false; simp), if_neg (by show ¬ idx (named ⟨#[97]⟩) sb25.cols < 0; decide +kernel)]
    rw [show (tab2 ys).rows = ys.map row2 from rfl, taken2 hc]
    rw [show ((ys.filter (yesN ns)).map row2).map (pickC (idx (named (opCount ns).col) (tab2 ys).s.cols).toNat) = (ys.filter (yesN ns)).map kv25 by
      rw [List.map_map]
      refine List.map_congr_left fun x _ => ?_
      show pickC (idx (named ⟨#[97]⟩) sb25.cols).toNat (row2 x) = kv25 x
      rw [show (idx (named ⟨#[97]⟩) sb25.cols).toNat = 0 by decide +kernel]
      rfl]
    rw [readC]
    have ha : aggP (opCount ns).agg ((ys.filter (yesN ns)).map kv25) = (⟨1, ((ys.filter (yesN ns)).length : Int), false, .empty⟩, 0) := by
      rw [aggP, if_neg (by show ¬ (1 : Int) = 0; omega), if_pos (by rfl), nulls2]
      simp
    rw [ha]
    rfl
  rw [readT, if_neg (by rw [ht]; simp), hr]
theorem none_pred : predB [] = true := by kernel_rfl
theorem none_check : checkE [] sb25 = 0 := by kernel_rfl
theorem none_yes (x : Int) : yesN [] x = true := by
  unfold yesN yesV truthR
  rw [none_check, if_neg (by simp), if_pos (row2_ok x)]
  rfl
def cmpN (k v : Int) : Nod := ⟨1, ⟨#[97]⟩, k, kv25 v, 0, 0⟩
theorem cmp_pred {k v : Int} (h0 : 0 ≤ k) (h5 : k ≤ 5) : predB [cmpN k v] = true := by
  unfold predB nodsUpto nodsUpto
  show (_ && (_ && nodB (cmpN k v) 0)) = true
  unfold nodB
  rw [if_neg (by show ¬ ((1 : Int) = 0 ∨ (1 : Int) = 2); omega), if_pos (by rfl)]
  show (_ && (_ && (decide (0 ≤ k) && decide (k ≤ 5) && _ && _))) = true
  rw [decide_eq_true h0, decide_eq_true h5]
  rfl
theorem cmp_check {k v : Int} (h0 : 0 ≤ k) (h5 : k ≤ 5) : checkE [cmpN k v] sb25 = 0 := by
  rw [checkE, if_pos ⟨cmp_pred h0 h5, fil_1⟩]
  show (if nodE sb25 (cmpN k v) ≠ 0 then _ else _) = _
  rw [show nodE sb25 (cmpN k v) = 0 by kernel_rfl]
  rfl
end Go.Proofs.YtnphokhehacfnaaGreatDoor

namespace Go.Proofs.YtnphokhehacfnaaGreatDoor
open Go.RowKit

set_option maxRecDepth 100000 in
set_option maxHeartbeats 4000000 in
theorem cmp25_any (c v : Int) (w : World) :
    Calls Tryz.prog 37 #[.int .i64 c, .int .i64 v] w fun e w' => ∃ b : Nat, e = .returned (.agg #[.slice (some ⟨b, 0, none⟩) 1 1]) ∧ Blk w' b 77 [.int .i64 1, .string ⟨#[97]⟩, .int .i64 c, .int .i64 1, .int .i64 v, .bool false, .string ⟨#[]⟩, .int .i64 0, .int .i64 0] ∧ Step w w' := by
  obtain ⟨Wf, hWf⟩ : ∃ x : World, x = (w.alloc (.cells #[.slice (some ⟨w.heap.size + 1, 0, none⟩) 1 1] 34)).alloc (.cells #[.int .i64 1, .string ⟨#[97]⟩, .int .i64 c, .int .i64 1, .int .i64 v, .bool false, .string ⟨#[]⟩, .int .i64 0, .int .i64 0] 77) := ⟨_, rfl⟩
  have HPf : Hid (Blk Wf w.heap.size 34 [.slice (some ⟨w.heap.size + 1, 0, none⟩) 1 1]) := by rw [hWf]; exact (Blk.new w _ 34).alloc _
  have HNf : Hid (Blk Wf (w.heap.size + 1) 77 [.int .i64 1, .string ⟨#[97]⟩, .int .i64 c, .int .i64 1, .int .i64 v, .bool false, .string ⟨#[]⟩, .int .i64 0, .int .i64 0]) := by rw [hWf]; exact Blk.new_at (by simp) _ 77
  have SF : Step w Wf := by rw [hWf]; exact Step.of
  go_enter Tryz.func37, Tryz.ntmps37
  go_wp2_with fail
  rw [← hWf]
  have hp0 := At.z1 HPf.out.at0
  refine bodyPost_ret (v := .agg #[.slice (some ⟨w.heap.size + 1, 0, none⟩) 1 1]) (by simp [results, Tryz.results37, go_sem, hp0]) rfl ?_
  exact ⟨w.heap.size + 1, rfl, HNf.out, SF⟩
theorem pr_cmp {w : World} {b : Nat} {c v : Int} (h : Blk w b 77 [.int .i64 1, .string ⟨#[97]⟩, .int .i64 c, .int .i64 1, .int .i64 v, .bool false, .string ⟨#[]⟩, .int .i64 0, .int .i64 0]) : PrIn w [cmpN c v] (some ⟨b, 0, none⟩) 1 :=
  ⟨Nat.le_refl _, by decide, (by decide : 1 ≤ 1599289640400), SlAt.of_blk25 h rfl (fun x hx => by simp at hx; subst hx; rfl), fun n hn => by simp at hn; subst hn; exact ⟨(by decide : (1 : Nat) ≤ 9223372036854775807), (by decide : (0 : Nat) ≤ 9223372036854775807)⟩⟩
set_option maxRecDepth 100000 in
set_option maxHeartbeats 4000000 in
theorem total_any {w0 w1 : World} (t : TbA) (ns : List Nod) (An : Option Addr) (cn : Nat) (w : World) (hin : TbIn w0 t) (hp : PrIn w1 ns An cn) [f0 : Fut w0 w] [f1 : Fut w1 w] (hfine : ∀ vs ∈ t.tb.rows, ∀ v ∈ vs, FineD v) :
    Calls Tryz.prog 36 #[.agg #[.int .i64 t.s.id, .slice t.As t.s.cols.length t.cs, .int .i64 t.s.next, .int .i64 t.sid, .slice t.Af t.fs.length t.cf, .slice t.Ar t.rs.length t.cr], .agg #[.slice An ns.length cn]] w fun e w' => e = .returned (.int .i64 (readT t.tb (opCount ns)).2.i) ∧ Step w w' := by
  have hfd : ∀ (a b c d : Value) (w : World), (Instr.field 36 (.agg #[a, b, c, d]) 1).run Tryz.prog w = .ok b w := fun _ _ _ _ _ => by kernel_rfl
  have hf7 : ∀ (a b c d e f g : Value) (w : World), (Instr.field 59 (.agg #[a, b, c, d, e, f, g]) 3).run Tryz.prog w = .ok (.agg #[d, e, f, g]) w := fun _ _ _ _ _ _ _ _ => by kernel_rfl
  obtain ⟨W1, hW1⟩ : ∃ x : World, x = (w.alloc (.cells #[.int .i64 t.s.id, .slice t.As t.s.cols.length t.cs, .int .i64 t.s.next, .int .i64 t.sid, .slice t.Af t.fs.length t.cf, .slice t.Ar t.rs.length t.cr] 30)).alloc (.cells #[.slice An ns.length cn] 34) := ⟨_, rfl⟩
  have SW1 : Step w W1 := by rw [hW1]; exact Step.of
  have HT : Hid (Blk W1 w.heap.size 30 [.int .i64 t.s.id, .slice t.As t.s.cols.length t.cs, .int .i64 t.s.next, .int .i64 t.sid, .slice t.Af t.fs.length t.cf, .slice t.Ar t.rs.length t.cr]) := by rw [hW1]; exact (Blk.new w _ 30).alloc _
  have HP : Hid (Blk W1 (w.heap.size + 1) 34 [.slice An ns.length cn]) := by rw [hW1]; exact Blk.new_at (by simp) _ 34
  obtain ⟨t0, t1, t2, t3, t4, t5⟩ := At.z6 HT.out.at0
  have lt_ := HT.out.lt
  have p0 := At.z1 HP.out.at0
  have lp := HP.out.lt
  obtain ⟨R, hR⟩ : ∃ R, readT t.tb (opCount ns) = R := ⟨_, rfl⟩
  have RD1 : Hid (Calls Tryz.prog 32 #[.agg #[.int .i64 t.s.id, .slice t.As t.s.cols.length t.cs, .int .i64 t.s.next, .int .i64 t.sid, .slice t.Af t.fs.length t.cf, .slice t.Ar t.rs.length t.cr], .agg #[.int .i64 9, .string ⟨#[]⟩, .slice none 0 0, .slice none 0 0, .slice An ns.length cn, .string ⟨#[97]⟩, .string ⟨#[]⟩, .int .i64 0, .int .i64 0, .int .i64 0, .bool false, .string ⟨#[]⟩, .slice none 0 0, .int .i64 0, .int .i64 0, .int .i64 1]] W1 fun e w' => e = .returned (.agg #[.int .i64 R.1, .slice none 0 0, .slice none 0 0, .int .i64 R.2.kind, .int .i64 R.2.i, .bool R.2.b, .string R.2.s]) ∧ Step W1 w') := by
    haveI f2 : Fut w0 W1 := Fut.tr f0 (Fut.mk' (fut w W1))
    haveI f3 : Fut w1 W1 := Fut.tr f1 (Fut.mk' (fut w W1))
    have := readAgg (w0 := w0) (w1 := W1) t ⟨9, ⟨#[]⟩, [], none, 0, [], none, 0, ns, An, cn, ⟨#[97]⟩, ⟨#[]⟩, 0, ⟨0, 0, false, ⟨#[]⟩⟩, [], none, 0, 0, 0, 1⟩ W1 hin ⟨SlAt.nil_, Nat.zero_le _, Nat.le_refl _, RowsIn.none_ _, fun r h => by simp at h, hp.fut, FsIn.none_ _, Nat.zero_le _, FineD.zero, (by show 0 ≤ 9223372036854775807; decide)⟩ (by show (1 : Int) ≠ 0; decide) hfine
    rw [← hR]
    exact this
  rw [hR]
  clear hR
  go_enter Tryz.func36, Tryz.ntmps36
  go_upto_region 1 with fail
  rw [← hW1]
  clear hW1
  go_wp2_with (go_at_call 32; (with_reducible refine RD1.out.mono ?_); rintro e w7 ⟨rfl, hs7⟩)
  go_ret
  exact ⟨rfl, Step.of⟩
end Go.Proofs.YtnphokhehacfnaaGreatDoor

namespace Go.Proofs.YtnphokhehacfnaaGreatDoor
open Go.RowKit

theorem fine2 {t : TbA} {ys : List Int} (h : t.tb = tab2 ys) (hr : ∀ x ∈ ys, -9223372036854775808 ≤ x ∧ x ≤ 9223372036854775807) : ∀ vs ∈ t.tb.rows, ∀ v ∈ vs, FineD v := by
  intro vs hvs v hv
  rw [h] at hvs
  obtain ⟨x, hx, rfl⟩ := List.mem_map.1 hvs
  simp only [row2, List.mem_cons, List.not_mem_nil, or_false] at hv
  rcases hv with rfl | rfl
  · exact ⟨(by show 0 ≤ 9223372036854775000; decide), hr x hx⟩
  · exact ⟨by decide, by decide, by decide⟩
/-- A count by total. -/
theorem total2 {w0 w1 : World} {t : TbA} {ys : List Int} {ns : List Nod} {An : Option Addr} {cn : Nat} (w : World) (ht : t.tb = tab2 ys) (hin : TbIn w0 t) (hp : PrIn w1 ns An cn) [f0 : Fut w0 w] [f1 : Fut w1 w] (hr : ∀ x ∈ ys, -9223372036854775808 ≤ x ∧ x ≤ 9223372036854775807) (hl : ys.length ≤ 20) (h1 : predB ns = true) (h2 : checkE ns sb25 = 0) :
    Calls Tryz.prog 36 #[.agg #[.int .i64 t.s.id, .slice t.As t.s.cols.length t.cs, .int .i64 t.s.next, .int .i64 t.sid, .slice t.Af t.fs.length t.cf, .slice t.Ar t.rs.length t.cr], .agg #[.slice An ns.length cn]] w fun e w' => e = .returned (.int .i64 ((ys.filter (yesN ns)).length : Int)) ∧ Step w w' := by
  have := total_any t ns An cn w hin hp (fine2 ht hr)
  rw [ht, count2 h1 h2 hl] at this
  exact this
end Go.Proofs.YtnphokhehacfnaaGreatDoor

namespace Go.Proofs.YtnphokhehacfnaaGreatDoor
open Go.RowKit

/-- A table with other rows. -/
def TbA.with_ (t : TbA) (rs : List RowA) : TbA := ⟨t.s, t.As, t.cs, t.sid, t.fs, t.Af, t.cf, rs, t.Ar, t.cr⟩
theorem Mt.row {w w1 : World} {g T n c : Nat} {A : Option Addr} {l : List (List Value)} (hr : Own w g 36 4 (.slice A n c) l) (hg : w.grownBy w1 (Value.slice A n c).ownBlock) (hgw : g ≤ w.heap.size) : Mt g T w w1 :=
  ⟨below_of_grown hr hg hgw, fun _ _ _ _ h2 _ hb' => hb'.grown hg (hr.ne_ hb' (fun hh => h2 hh.symm))⟩
/-- A value of a row is written over. -/
theorem Doer.putV {w : World} {g D T O : Nat} {t : TbA} {o : OpA} (h : Doer w g D T O t o) {k j : Nat} {r : RowA} {x : Val} (hk : t.rs[k]? = some r) (hj : r.vs[j]? = some x) (hgw : g ≤ w.heap.size) :
    ∃ gV, r.A = some ⟨gV, 0, none⟩ ∧ g ≤ gV ∧ gV < w.heap.size ∧ At w gV (j * 4) x.cells ∧ (∀ o, w.frozen? ⟨gV, o, none⟩ = false) ∧ ∀ v : Val, Doer (set4 w gV (j * 4) v) g D T O (t.with_ (t.rs.set k ⟨r.A, r.cap, r.vs.set j v⟩)) o ∧ Mt g T w (set4 w gV (j * 4) v) := by
  obtain ⟨gV, hA, h1, h2, h3, h4, p⟩ := h.own.rows.putV hk hj
  have hr := h.own.rows.rows.rows r (List.mem_of_getElem? hk)
  refine ⟨gV, hA, h1, h2, h3, h4, fun v => ?_⟩
  have hg' : w.grownBy (set4 w gV (j * 4) v) (Value.slice r.A r.vs.length r.cap).ownBlock := by
    rw [ob_eq, hA]
    exact set4_grown w gV (j * 4) v
  refine ⟨⟨h.d.grown hg' (hr.ne_ h.d (by decide)), ?_, h.op.grown hg' (hr.ne_ h.op (by decide)), ⟨h.own.cols.grown_other hg' fun q hq hh => own_ne hr h.own.cols (by decide) q hh hq, h.own.ccap, h.own.flds.grown_other hg' fun q hq hh => own_ne hr h.own.flds (by decide) q hh hq, ?_⟩, h.gT⟩, Mt.row hr hg' hgw⟩
  · have := h.tb.grown hg' (hr.ne_ h.tb (by decide))
    unfold TbA.cells TbA.with_ at *
    simp only [List.length_set]
    exact this
  · have := p v
    show OwnD _ _ _ (t.rs.set k _).length _ _
    rw [List.length_set]
    exact this
theorem setRows_snoc {vss : List (List Val)} {col : Nat} {v : Val} {l : List Int} {k : Nat} {x : Int} (hx : l[k]? = some x) : setRows vss col v (l.take (k + 1)) = (setRows vss col v (l.take k)).modify x.toNat (fun vs => vs.set col v) := by
  unfold setRows
  rw [List.take_add_one, hx, List.foldl_append]
  rfl
theorem map_set_modify {rs : List RowA} {k : Nat} {r : RowA} {f : List Val → List Val} {A : Option Addr} {c : Nat} (hk : rs[k]? = some r) : (rs.set k ⟨A, c, f r.vs⟩).map RowA.vs = (rs.map RowA.vs).modify k f := by
  apply List.ext_getElem?
  intro i
  have hkl := (List.getElem?_eq_some_iff.1 hk).1
  rw [List.getElem?_map, List.getElem?_set, List.getElem?_modify, List.getElem?_map]
  by_cases e : k = i
  · subst e
    have h2 := (List.getElem?_eq_some_iff.1 hk).2
    simp [hkl, h2]
  · simp [e]
end Go.Proofs.YtnphokhehacfnaaGreatDoor

namespace Go.Proofs.YtnphokhehacfnaaGreatDoor
open Go.RowKit

theorem setRows_get (col : Nat) (v : Val) : ∀ (l : List Int) (vss : List (List Val)) (i : Nat), (∀ x ∈ l, 0 ≤ x) → (setRows vss col v l)[i]? = (vss[i]?).map fun r => if (i : Int) ∈ l then r.set col v else r
  | [], vss, i, _ => by
    show vss[i]? = _
    cases vss[i]? <;> simp
  | x :: l, vss, i, h => by
    show (setRows (vss.modify x.toNat fun r => r.set col v) col v l)[i]? = _
    rw [setRows_get col v l _ i (fun y hy => h y (by simp [hy])), List.getElem?_modify]
    have hx := h x (by simp)
    cases vss[i]? with
    | none => rfl
    | some r =>
      by_cases e : x.toNat = i
      · have e2 : (i : Int) = x := by omega
        by_cases hm : (i : Int) ∈ l <;> simp [e, e2]
      · have e2 : ¬ (i : Int) = x := by omega
        by_cases hm : (i : Int) ∈ l <;> simp [e, e2, hm]
theorem setRows_yes (ns : List Nod) (s : Sch) (vss : List (List Val)) (col : Nat) (v : Val) : setRows vss col v (yesTo ns s vss vss.length) = vss.map fun r => if yesV ns s r = true then r.set col v else r := by
  apply List.ext_getElem?
  intro i
  rw [setRows_get _ _ _ _ _ (fun x hx => (yes_bds ns s vss _ x hx).1), List.getElem?_map]
  cases hr : vss[i]? with
  | none => rfl
  | some r =>
    have hd : vss.getD i [] = r := by rw [List.getD_eq_getElem?_getD, hr]; rfl
    have hi := (List.getElem?_eq_some_iff.1 hr).1
    have key : (i : Int) ∈ yesTo ns s vss vss.length ↔ yesV ns s r = true := by
      rw [yes_mem]
      constructor
      · rintro ⟨j, _, e, h⟩
        obtain rfl : i = j := by omega
        rw [yesV, ← hd, h]
        rfl
      · intro h
        rw [yesV, beq_iff_eq] at h
        exact ⟨i, hi, rfl, by rw [hd]; exact h⟩
    simp only [Option.map_some, key]
/-- A table of numbers, or none. -/
def rowG (v : Val) : List Val := [v, Val.zero]
def tabG (vs : List Val) : Tb := ⟨sb25, 0, [], vs.map rowG⟩
def okG (v : Val) : Prop := v = Val.zero ∨ ∃ x, v = kv25 x
theorem tab2_G (ys : List Int) : tabG (ys.map kv25) = tab2 ys := by rw [tab2, tabG, List.map_map]; rfl
theorem zero_whole1 : wholeB 1 Val.zero = true := by kernel_rfl
theorem rowG_may {v : Val} (h : okG v) : rowW sb25.cols (rowG v) = true := by
  rcases h with rfl | ⟨x, rfl⟩
  · kernel_rfl
  · exact row2_may x
theorem rowG_ok {v : Val} (h : okG v) : rowB sb25 (rowG v) = true := by
  rcases h with rfl | ⟨x, rfl⟩
  · kernel_rfl
  · exact row2_ok x
theorem okG_clean {v : Val} (h : okG v) : clean v = v := by
  rcases h with rfl | ⟨x, rfl⟩ <;> rfl
theorem rowG_clean {v : Val} (h : okG v) : (rowG v).map clean = rowG v := by
  rcases h with rfl | ⟨x, rfl⟩ <;> rfl
theorem tabG_may {vs : List Val} (h : vs.length ≤ 20) (ho : ∀ v ∈ vs, okG v) : tabB (tabG vs) = true := by
  rw [tabB_iff]
  refine ⟨fil_1, fil_3, by simp [tabG]; omega, ?_⟩
  rw [List.all_eq_true]
  intro r hr
  obtain ⟨v, hv, rfl⟩ := List.mem_map.1 hr
  exact rowG_may (ho v hv)
theorem rowsG_ok {vs : List Val} (ho : ∀ v ∈ vs, okG v) (k : Nat) : rowsOk sb25 (vs.map rowG) k = true := by
  unfold rowsOk
  rw [List.all_eq_true]
  intro r hr
  obtain ⟨v, hv, rfl⟩ := List.mem_map.1 (List.mem_of_mem_take hr)
  exact rowG_ok (ho v hv)
theorem selG {ns : List Nod} {vs : List Val} (ho : ∀ v ∈ vs, okG v) (hc : checkE ns sb25 = 0) : selR ns sb25 (vs.map rowG) = (yesTo ns sb25 (vs.map rowG) (vs.map rowG).length, 0) := by
  rw [selR, if_neg (by omega), if_pos (rowsG_ok ho _)]
theorem takenG {ns : List Nod} {vs : List Val} (ho : ∀ v ∈ vs, okG v) (hc : checkE ns sb25 = 0) : (takeR (vs.map rowG) (selR ns sb25 (vs.map rowG)).1).1 = (vs.filter fun v => yesV ns sb25 (rowG v)).map rowG := by
  rw [selG ho hc]
  rw [take_of (yes_bds ns sb25 (vs.map rowG) _), yes_filter _ _ _ _ (Nat.le_refl _), List.take_length, List.filter_map, List.map_map]
  exact List.map_congr_left fun v hv => rowG_clean (ho v (List.mem_filter.1 hv).1)
theorem countG {ns : List Nod} {vs : List Val} (hp : predB ns = true) (hc : checkE ns sb25 = 0) (hl : vs.length ≤ 20) (ho : ∀ v ∈ vs, okG v) :
    readT (tabG vs) (opCount ns) = (0, kv25 (((vs.filter fun v => yesV ns sb25 (rowG v)).length : Int) - (nullsP (vs.filter fun v => yesV ns sb25 (rowG v)) : Int))) := by
  have ht := tabG_may hl ho
  have hr : readA (tabG vs) (opCount ns) = .ok (kv25 (((vs.filter fun v => yesV ns sb25 (rowG v)).length : Int) - (nullsP (vs.filter fun v => yesV ns sb25 (rowG v)) : Int))) := by
    rw [read_eq, if_neg (by
      rintro (h | h | h | h)
      · exact h rfl
      · rw [show (opCount ns).ns = ns from rfl, hp] at h; cases h
      · exact absurd h (by show ¬ (1 : Int) < 0; omega)
      · exact absurd h (by show ¬ (4 : Int) < 1; omega))]
    rw [show yesP (tabG vs) (opCount ns).ns = .ok (selR ns sb25 (vs.map rowG)).1 by rw [yesP, if_neg (show ¬ checkE (opCount ns).ns (tabG vs).s ≠ 0 from fun h => h hc)]; rfl]
    show readB (tabG vs) (opCount ns) (selR ns sb25 (vs.map rowG)).1 = _
    rw [readB, if_neg (by show ¬ ([] : List ByteArray).all _ = false; simp), if_neg (by show ¬ idx (named ⟨#[97]⟩) sb25.cols < 0; decide +kernel)]
    rw [show (tabG vs).rows = vs.map rowG from rfl, takenG ho hc]
    rw [show ((vs.filter fun v => yesV ns sb25 (rowG v)).map rowG).map (pickC (idx (named (opCount ns).col) (tabG vs).s.cols).toNat) = vs.filter fun v => yesV ns sb25 (rowG v) by
      rw [List.map_map]
      refine (List.map_congr_left (g := id) fun x _ => ?_).trans (List.map_id _)
      show pickC (idx (named ⟨#[97]⟩) sb25.cols).toNat (rowG x) = x
      rw [show (idx (named ⟨#[97]⟩) sb25.cols).toNat = 0 by decide +kernel]
      rfl]
    rw [readC]
    have hcl : (vs.filter fun v => yesV ns sb25 (rowG v)).map clean = vs.filter fun v => yesV ns sb25 (rowG v) :=
      (List.map_congr_left (g := id) fun v hv => okG_clean (ho v (List.mem_filter.1 hv).1)).trans (List.map_id _)
    have ha : aggP (opCount ns).agg (vs.filter fun v => yesV ns sb25 (rowG v)) = (⟨1, ((vs.filter fun v => yesV ns sb25 (rowG v)).length : Int) - (nullsP (vs.filter fun v => yesV ns sb25 (rowG v)) : Int), false, .empty⟩, 0) := by
      rw [aggP, if_neg (by show ¬ (1 : Int) = 0; omega), if_pos (by rfl), hcl]
    rw [ha]
    rfl
  rw [readT, if_neg (by rw [ht]; simp), hr]
/-- An update of column a. -/
def opUpd (ns : List Nod) (v : Val) : Opp := ⟨3, [], [], ns, ⟨#[97]⟩, ⟨#[]⟩, 0, v, [], 0⟩
theorem upd2 {ns : List Nod} {ys : List Int} {v : Val} (hp : predB ns = true) (hc : checkE ns sb25 = 0) (hv : valueB v = true) (hw : wholeB 1 v = true) (hl : ys.length ≤ 20) :
    applyP (tab2 ys) (opUpd ns v) = (tabG (ys.map fun x => if yesN ns x = true then v else kv25 x), 0) := by
  have ht := tab2_may hl
  have hr : runP (tab2 ys) (opUpd ns v) = .ok (tabG (ys.map fun x => if yesN ns x = true then v else kv25 x)) := by
    rw [runP, if_neg (by show ¬ (3 : Int) = 0; omega), if_neg (show ¬ ((opUpd ns v).kind = 1 ∨ (opUpd ns v).kind = 2) by show ¬ ((3 : Int) = 1 ∨ (3 : Int) = 2); omega), if_pos (show (opUpd ns v).kind = 3 from rfl), updateP, if_neg (by rw [show (opUpd ns v).ns = ns from rfl, hp, show (opUpd ns v).v = v from rfl, hv]; simp)]
    rw [show yesP (tab2 ys) (opUpd ns v).ns = .ok (selR ns sb25 (ys.map row2)).1 by rw [yesP, if_neg (show ¬ checkE (opUpd ns v).ns (tab2 ys).s ≠ 0 from fun h => h hc)]; rfl]
    show (if idx (named ⟨#[97]⟩) sb25.cols < 0 then _ else if wholeB (sb25.cols.getD (sb25.cols.findIdx (named ⟨#[97]⟩)) ⟨0, .empty, 0⟩).kind v = false then _ else Except.ok (⟨sb25, 0, [], setRows (ys.map row2) (sb25.cols.findIdx (named ⟨#[97]⟩)) v (selR ns sb25 (ys.map row2)).1⟩ : Tb)) = _
    rw [if_neg (by decide +kernel), show sb25.cols.findIdx (named ⟨#[97]⟩) = 0 by decide +kernel, if_neg (by show ¬ wholeB 1 v = false; rw [hw]; simp), sel2 hc, setRows_yes]
    rw [tabG, List.map_map, List.map_map]
    rw [show ys.map ((fun r => if yesV ns sb25 r = true then r.set 0 v else r) ∘ row2) = ys.map (rowG ∘ fun x => if yesN ns x = true then v else kv25 x) from List.map_congr_left fun x _ => by
      show (if yesN ns x = true then (row2 x).set 0 v else row2 x) = rowG (if yesN ns x = true then v else kv25 x)
      cases yesN ns x <;> rfl]
  rw [applyP_run ht (by show ¬ (3 : Int) < 0; omega) (by show ¬ (8 : Int) < 3; omega), hr]
theorem less_kv (a b : Int) : lessV (kv25 a) (kv25 b) = decide (a < b) := rfl
theorem yes_cmp {k v x : Int} (h0 : 0 ≤ k) (h5 : k ≤ 5) : yesN [cmpN k v] x = (truthI (standB k (kv25 x) (kv25 v)) == 1) := by
  unfold yesN yesV truthR
  rw [cmp_check h0 h5, if_neg (by simp), if_pos (row2_ok x)]
  kernel_rfl
theorem yes_eq (w x : Int) : yesN [cmpN 0 w] x = decide (x = w) := by
  rw [yes_cmp (by omega) (by omega)]
  unfold standB
  rw [if_pos rfl, less_kv, less_kv]
  by_cases h : x = w
  · subst h
    rw [decide_eq_false (by omega : ¬ x < x), decide_eq_true (rfl : x = x)]
    rfl
  · rw [decide_eq_false h]
    by_cases h1 : x < w
    · rw [decide_eq_true h1]; rfl
    · rw [decide_eq_false h1, decide_eq_true (by omega : w < x)]; rfl
theorem yes_lt (v x : Int) : yesN [cmpN 2 v] x = decide (x < v) := by
  rw [yes_cmp (by omega) (by omega)]
  unfold standB
  rw [if_neg (by omega), if_neg (by omega), if_pos rfl, less_kv]
  cases decide (x < v) <;> rfl
/-- How many have the new value. -/
theorem upd_count (v w : Int) (ys : List Int) : (((ys.map fun x => if yesN [cmpN 2 v] x = true then w else x).filter (yesN [cmpN 0 w])).length : Int) = ((ys.filter (yesN [cmpN 0 w])).length : Int) + ((ys.filter (yesN [cmpN 2 v])).length : Int) - (if w < v then ((ys.filter (yesN [cmpN 0 w])).length : Int) else 0) := by
  induction ys with
  | nil => split <;> rfl
  | cons x r ih =>
    simp only [List.map_cons, List.filter_cons, yes_eq, yes_lt, decide_eq_true_eq] at ih ⊢
    by_cases h1 : x < v
    · simp only [h1, if_true]
      by_cases h2 : x = w
      · subst h2
        simp only [h1, if_true, List.length_cons] at ih ⊢
        omega
      · simp only [h2, if_false, List.length_cons] at ih ⊢
        split at ih <;> rename_i h3 <;> simp only [h3, if_true, if_false] at ih ⊢ <;> omega
    · simp only [h1, if_false]
      by_cases h2 : x = w
      · subst h2
        simp only [h1, if_false, if_true, List.length_cons] at ih ⊢
        omega
      · simp only [h2, if_false] at ih ⊢
        omega
theorem upd2_kv {ys : List Int} {v w : Int} : tabG (ys.map fun x => if yesN [cmpN 2 v] x = true then kv25 w else kv25 x) = tab2 (ys.map fun x => if yesN [cmpN 2 v] x = true then w else x) := by
  rw [← tab2_G, List.map_map]
  rw [show ys.map (fun x => if yesN [cmpN 2 v] x = true then kv25 w else kv25 x) = ys.map (kv25 ∘ fun x => if yesN [cmpN 2 v] x = true then w else x) from List.map_congr_left fun x _ => by
    show _ = kv25 (if yesN [cmpN 2 v] x = true then w else x)
    cases yesN [cmpN 2 v] x <;> rfl]
theorem upd2_none (ys : List Int) : (ys.map fun x => if yesN [] x = true then Val.zero else kv25 x) = ys.map fun _ => Val.zero := List.map_congr_left fun x _ => by rw [none_yes]; rfl
theorem zeros_ok (ys : List Int) : ∀ v ∈ ys.map (fun _ => Val.zero), okG v := fun v hv => by
  obtain ⟨x, _, rfl⟩ := List.mem_map.1 hv
  exact .inl rfl
/-- Where all are null none is counted. -/
theorem count0 {ys : List Int} (hl : ys.length ≤ 20) : readT (tabG (ys.map fun _ => Val.zero)) (opCount []) = (0, kv25 0) := by
  rw [countG none_pred none_check (by rw [List.length_map]; exact hl) (zeros_ok ys)]
  rw [show nullsP ((ys.map fun _ => Val.zero).filter fun v => yesV [] sb25 (rowG v)) = ((ys.map fun _ => Val.zero).filter fun v => yesV [] sb25 (rowG v)).length from by
    unfold nullsP
    rw [List.countP_eq_length]
    intro v hv
    obtain ⟨x, _, rfl⟩ := List.mem_map.1 (List.mem_filter.1 hv).1
    rfl]
  rw [Int.sub_self]
end Go.Proofs.YtnphokhehacfnaaGreatDoor

namespace Go.Proofs.YtnphokhehacfnaaGreatDoor
open Go.RowKit

theorem yesTo_in (ns : List Nod) (s : Sch) (vss : List (List Val)) : ∀ (k : Nat) (x : Int), x ∈ yesTo ns s vss k → 0 ≤ x ∧ x < (k : Int)
  | 0, x, h => by simp [yesTo] at h
  | k + 1, x, h => by
    rw [yesTo] at h
    split at h
    · rcases List.mem_append.1 h with h | h
      · have := yesTo_in ns s vss k x h
        omega
      · simp at h
        omega
    · have := yesTo_in ns s vss k x h
      omega
theorem sel_in {ns : List Nod} {s : Sch} {vss : List (List Val)} : ∀ x ∈ (selR ns s vss).1, 0 ≤ x ∧ x < (vss.length : Int) := by
  intro x hx
  unfold selR at hx
  split at hx
  · simp at hx
  · split at hx
    · exact yesTo_in ns s vss _ x hx
    · simp at hx
theorem yesTo_bdU (ns : List Nod) (s : Sch) (vss : List (List Val)) : (selR ns s vss).1.length ≤ vss.length := by
  unfold selR
  split
  · simp
  · split
    · exact yesTo_len ns s vss _
    · simp
/-- What an update does behind its form and its predicate. -/
def updC (s : Sch) (sid : Int) (fs : List Fld) (rows : List (List Val)) (col : ByteArray) (v : Val) (l : List Int) : Except Int Tb :=
  if idx (named col) s.cols < 0 then .error 5
  else if wholeB (s.cols.getD (s.cols.findIdx (named col)) ⟨0, .empty, 0⟩).kind v = false then .error 5
  else .ok ⟨s, sid, fs, setRows rows (s.cols.findIdx (named col)) v l⟩
theorem upd_eq (t : Tb) (o : Opp) : updateP t o = if predB o.ns = false ∨ valueB o.v = false then .error 9 else match yesP t o.ns with | .error c => .error c | .ok l => updC t.s t.sid t.fs t.rows o.col o.v l := by
  unfold updateP updC
  cases yesP t o.ns <;> rfl
set_option maxRecDepth 100000 in
set_option maxHeartbeats 16000000 in
theorem update_any {w1 : World} (g D T O : Nat) (t : TbA) (o : OpA) (w : World) (h : Doer w g D T O t o) (ho : OpIn w1 o) [f1 : Fut w1 w] (hf : TbFine t) (hg : g ≤ w.heap.size) (hn12 : t.s.cols.length ≤ 12) (hn4 : t.rs.length ≤ 4096) (hrow : ∀ r ∈ t.rs, r.vs.length = t.s.cols.length) :
    Calls Tryz.prog 89 #[.pointer (some ⟨D, 0, none⟩)] w fun e w' => RunR g T w (updateP t.tb o.op) e w' := by
  have HD := hide h
  have HSC := hide (h.own.r.tin hf).sch
  have HROW := hide hrow
  have hvs : o.v.s.size ≤ 9223372036854775807 := by have := ho.val.1; omega
  have PM := hide (fun w' [Fut w1 w'] => ppred_any o.ns o.An o.cn w' ho.prd)
  have VM := hide (fun (w' : World) => value_any o.v w' hvs)
  have YS := fun w' (hs : Fut w w') => yes_any (w1 := w1) g D T O t o w' h.fut ho (f1 := ⟨f1.below.trans (hs.below.mono f1.below.size)⟩) hf
  obtain ⟨R, hR⟩ : ∃ R, updateP t.tb o.op = R := ⟨_, rfl⟩
  have HR := hide ((upd_eq t.tb o.op).symm.trans hR)
  rw [hR]
  clear hR h hrow
  obtain ⟨d0, d1⟩ := At.z2 (HD.out.d.fut (w' := w)).at0
  have ld := (HD.out.d.fut (w' := w)).lt
  obtain ⟨t0, t1, t2, t3, t4, t5⟩ := At.z6 (HD.out.tb.fut (w' := w)).at0
  have lt_ := (HD.out.tb.fut (w' := w)).lt
  have ft_ := (HD.out.tb.fut (w' := w)).free
  obtain ⟨o0, o1, o2, o3, o4, o5, o6, o7, o8, o9, o10, o11, o12, o13, o14, o15⟩ := At.zOp (HD.out.op.fut (w' := w)).at0
  have lo := (HD.out.op.fut (w' := w)).lt
  unfold TbA.cells at *
  cases hp : predB o.ns with
  | false =>
    have HE : Hid (R = .error 9) := by show _ = _; rw [← HR.out, if_pos (Or.inl (show predB o.op.ns = false from hp))]
    rw [hp] at PM
    clear hp YS
    go_enter Tryz.func89, Tryz.ntmps89
    go_wp2_with (first | (go_at_call 123; (with_reducible refine (PM.out _).mono ?_); rintro e w3 ⟨rfl, hs3⟩) | (go_at_call 122; (with_reducible refine (throw_yes _ _).mono ?_); rintro e w9 ⟨rfl, h9⟩; obtain rfl := h9.symm))
    exact ⟨rfl, by rw [HE.out]; exact ⟨Mt.step hg (fut w w3), rfl⟩⟩
  | true =>
    have HP := hide hp
    rw [hp] at PM
    clear hp
    cases hv : valueB o.v with
    | false =>
      have HE : Hid (R = .error 9) := by show _ = _; rw [← HR.out, if_pos (Or.inr (show valueB o.op.v = false from hv))]
      rw [hv] at VM
      clear hv YS
      go_enter Tryz.func89, Tryz.ntmps89
      go_wp2_with (first | (go_at_call 123; (with_reducible refine (PM.out _).mono ?_); rintro e w3 ⟨rfl, hs3⟩; clear d0 d1 ld t0 t1 t2 t3 t4 t5 lt_ ft_ o0 o1 o2 o3 o4 o5 o6 o7 o8 o9 o10 o11 o12 o13 o14 o15 lo; obtain ⟨d0, d1⟩ := At.z2 (HD.out.d.fut (w' := w3)).at0; have ld := (HD.out.d.fut (w' := w3)).lt; obtain ⟨t0, t1, t2, t3, t4, t5⟩ := At.z6 (HD.out.tb.fut (w' := w3)).at0; have lt_ := (HD.out.tb.fut (w' := w3)).lt; have ft_ := (HD.out.tb.fut (w' := w3)).free; obtain ⟨o0, o1, o2, o3, o4, o5, o6, o7, o8, o9, o10, o11, o12, o13, o14, o15⟩ := At.zOp (HD.out.op.fut (w' := w3)).at0; have lo := (HD.out.op.fut (w' := w3)).lt) | (go_at_call 138; (with_reducible refine (VM.out _).mono ?_); rintro e w4 ⟨rfl, hs4⟩) | (go_at_call 122; (with_reducible refine (throw_yes _ _).mono ?_); rintro e w9 ⟨rfl, h9⟩; obtain rfl := h9.symm))
      exact ⟨rfl, by rw [HE.out]; exact ⟨Mt.step hg (fut w w4), rfl⟩⟩
    | true =>
      have HR1 : Hid ((match yesP t.tb o.ns with | .error c => .error c | .ok l => updC t.s t.sid t.fs (t.rs.map RowA.vs) o.col o.v l) = R) := by
        show _ = _
        rw [← HR.out, if_neg (by rintro (hh | hh); (rw [show predB o.op.ns = true from HP.out] at hh; cases hh); (rw [show valueB o.op.v = true from hv] at hh; cases hh))]
        rfl
      rw [hv] at VM
      clear hv HR
      go_enter Tryz.func89, Tryz.ntmps89
      go_upto_region 1 with (first | (go_at_call 123; (with_reducible refine (PM.out _).mono ?_); rintro e w3 ⟨rfl, hs3⟩; clear d0 d1 ld t0 t1 t2 t3 t4 t5 lt_ ft_ o0 o1 o2 o3 o4 o5 o6 o7 o8 o9 o10 o11 o12 o13 o14 o15 lo; obtain ⟨d0, d1⟩ := At.z2 (HD.out.d.fut (w' := w3)).at0; have ld := (HD.out.d.fut (w' := w3)).lt; obtain ⟨t0, t1, t2, t3, t4, t5⟩ := At.z6 (HD.out.tb.fut (w' := w3)).at0; have lt_ := (HD.out.tb.fut (w' := w3)).lt; have ft_ := (HD.out.tb.fut (w' := w3)).free; obtain ⟨o0, o1, o2, o3, o4, o5, o6, o7, o8, o9, o10, o11, o12, o13, o14, o15⟩ := At.zOp (HD.out.op.fut (w' := w3)).at0; have lo := (HD.out.op.fut (w' := w3)).lt) | (go_at_call 138; (with_reducible refine (VM.out _).mono ?_); rintro e w4 ⟨rfl, hs4⟩) | (go_at_call 122; (with_reducible refine (throw_no _ _).mono ?_); rintro e w9 ⟨rfl, h9⟩; obtain rfl := h9.symm))
      clear d0 d1 ld t0 t1 t2 t3 t4 t5 lt_ ft_ o0 o1 o2 o3 o4 o5 o6 o7 o8 o9 o10 o11 o12 o13 o14 o15 lo
      obtain ⟨wp, hwp⟩ : ∃ x : World, x = w4 := ⟨_, rfl⟩
      rw [← hwp] at hs4 ⊢
      clear hwp
      obtain ⟨d0, d1⟩ := At.z2 (HD.out.d.fut (w' := wp)).at0
      have ld := (HD.out.d.fut (w' := wp)).lt
      obtain ⟨t0, t1, t2, t3, t4, t5⟩ := At.z6 (HD.out.tb.fut (w' := wp)).at0
      have lt_ := (HD.out.tb.fut (w' := wp)).lt
      have ft_ := (HD.out.tb.fut (w' := wp)).free
      obtain ⟨o0, o1, o2, o3, o4, o5, o6, o7, o8, o9, o10, o11, o12, o13, o14, o15⟩ := At.zOp (HD.out.op.fut (w' := wp)).at0
      have lo := (HD.out.op.fut (w' := wp)).lt
      cases hy : yesP t.tb o.ns with
      | error c =>
        have HE : Hid (R = .error c) := by show _ = _; rw [← HR1.out, hy]
        rw [hy] at YS
        have YS := hide YS
        clear hy
        go_wp2_with (go_at_call 124; (with_reducible refine (YS.out _ inferInstance).mono ?_); rintro e w5 ⟨rfl, hs5⟩)
        exact ⟨rfl, by rw [HE.out]; exact ⟨Mt.step hg (fut w w5), rfl⟩⟩
      | ok l =>
        have HLB : Hid ((∀ x ∈ l, 0 ≤ x ∧ x < (t.rs.length : Int)) ∧ l.length ≤ t.rs.length) := by
          show _ ∧ _
          unfold yesP at hy
          split at hy
          · cases hy
          · injection hy with hy
            subst hy
            have h1 := @sel_in o.ns t.s (t.rs.map RowA.vs)
            have h2 := yesTo_bdU o.ns t.s (t.rs.map RowA.vs)
            rw [List.length_map] at h1 h2
            exact ⟨h1, h2⟩
        have HR2 : Hid (updC t.s t.sid t.fs (t.rs.map RowA.vs) o.col o.v l = R) := by show _ = _; rw [← HR1.out, hy]
        rw [hy] at YS
        have YS := hide YS
        clear hy HR1
        go_upto_region 2 with (go_at_call 124; (with_reducible refine (YS.out _ inferInstance).mono ?_); rintro e w5 ⟨⟨A4, c4, rfl, ho4⟩, hs5⟩; have HO4 := hide ho4; clear ho4)
        clear YS
        obtain ⟨wq, hwq⟩ : ∃ x : World, x = w5 := ⟨_, rfl⟩
        rw [← hwq] at hs5 HO4 ⊢
        clear hwq d0 d1 ld t0 t1 t2 t3 t4 t5 lt_ ft_ o0 o1 o2 o3 o4 o5 o6 o7 o8 o9 o10 o11 o12 o13 o14 o15 lo
        obtain ⟨d0, d1⟩ := At.z2 (HD.out.d.fut (w' := wq)).at0
        have ld := (HD.out.d.fut (w' := wq)).lt
        obtain ⟨t0, t1, t2, t3, t4, t5⟩ := At.z6 (HD.out.tb.fut (w' := wq)).at0
        have lt_ := (HD.out.tb.fut (w' := wq)).lt
        have ft_ := (HD.out.tb.fut (w' := wq)).free
        obtain ⟨o0, o1, o2, o3, o4, o5, o6, o7, o8, o9, o10, o11, o12, o13, o14, o15⟩ := At.zOp (HD.out.op.fut (w' := wq)).at0
        have lo := (HD.out.op.fut (w' := wq)).lt
        obtain ⟨x, hx⟩ : ∃ x, idx (named o.col) t.s.cols = x := ⟨_, rfl⟩
        have FD : Hid (∀ (w' : World), Fut w w' → Calls Tryz.prog 125 #[.agg #[.int .i64 t.s.id, .slice t.As t.s.cols.length t.cs, .int .i64 t.s.next], .string o.col] w' fun e w'' => e = .returned (.int .i64 x) ∧ Step w' w'') := fun w' hq => by
          have := ((HSC.out.below hq.below).find o.col)
          rw [hx] at this
          exact this.mono fun e w'' h => ⟨h.1, ⟨h.2⟩⟩
        have HX := hide hx
        clear hx
        refine wp_region_held_drew (S := (fun w' => Step wq w' ∧ (∀ b o, b < wq.heap.size → w'.cell? ⟨b, o, none⟩ = wq.cell? ⟨b, o, none⟩))) (by kernel_rfl) (by (try dsimp only); (first | exact ⟨hS1, hS2⟩ | exact ⟨Step.of, (bcell (fut _ _)).1⟩)) (fun hHeld => ?_)
        refine wT 0 29 (by assumption) ?_
        refine wT 7 36 (by assumption) ?_
        refine wT 1 30 (by assumption) ?_
        refine wT 8 37 (by assumption) ?_
        refine wT 2 31 (by assumption) ?_
        refine wT 9 38 (by assumption) ?_
        refine wT 3 32 (by assumption) ?_
        refine wT 10 39 (by assumption) ?_
        refine wT 4 33 (by assumption) ?_
        refine wT 11 40 (by assumption) ?_
        refine wT 5 34 (by assumption) ?_
        refine wT 12 41 (by assumption) ?_
        refine wT 6 35 (by assumption) ?_
        refine wT 13 42 (by assumption) ?_
        refine wpAnyH_ready (rs := [14]) (by kernel_rfl) (by simp) ?_
        refine AllReadyH.cons (o := ⟨some 43, _, _, _, _, _⟩) rfl (fun K hK => ?_) AllReadyH.nil
        obtain ⟨hS1, hS2⟩ := hHeld
        go_simp
        (go_at_call 125; (with_reducible refine (FD.out _ inferInstance).mono ?_); rintro e w6 ⟨rfl, hs6⟩)
        refine hK.out _ _ (by (try dsimp only); (first | exact ⟨hS1, hS2⟩ | exact ⟨Step.of, (bcell (fut _ _)).1⟩)) (fun hHeld => ?_)
        clear hK K
        (try simp only [Act.put, List.setIfInBounds_toArray, List.set_cons_zero, List.set_cons_succ])
        refine wT 15 3 (by assumption) ?_
        refine wpAnyH_done (by kernel_rfl) ?_ _
        clear d0 d1 ld t0 t1 t2 t3 t4 t5 lt_ ft_ o0 o1 o2 o3 o4 o5 o6 o7 o8 o9 o10 o11 o12 o13 o14 o15 lo
        by_cases hi : x < 0
        · have HE : Hid (R = .error 5) := by show _ = _; rw [← HR2.out, updC, if_pos (by rw [HX.out]; exact hi)]
          have hxd : decide (x < 0) = true := decide_eq_true hi
          go_wp2_with (go_at_call 122; (with_reducible refine (throw_yes _ _).mono ?_); rintro e w9 ⟨rfl, h9⟩; obtain rfl := h9.symm)
          exact ⟨rfl, by rw [HE.out]; exact ⟨Mt.step hg (fut w _), rfl⟩⟩
        · obtain ⟨y1, hxl⟩ := idx_yes (p := named o.col) (l := t.s.cols) (by rw [HX.out]; omega)
          obtain ⟨xn, hxn⟩ : ∃ xn, t.s.cols.findIdx (named o.col) = xn := ⟨_, rfl⟩
          rw [hxn] at y1 hxl
          obtain rfl : x = (xn : Int) := by rw [← HX.out]; exact y1
          obtain ⟨c, hc⟩ : ∃ c, t.s.cols[xn]? = some c := ⟨_, List.getElem?_eq_getElem hxl⟩
          have HR3 : Hid ((if wholeB c.kind o.v = false then .error 5 else .ok ⟨t.s, t.sid, t.fs, setRows (t.rs.map RowA.vs) xn o.v l⟩) = R) := by
            have e : updC t.s t.sid t.fs (t.rs.map RowA.vs) o.col o.v l = (if wholeB c.kind o.v = false then .error 5 else .ok ⟨t.s, t.sid, t.fs, setRows (t.rs.map RowA.vs) xn o.v l⟩) := by
              rw [updC, if_neg (by rw [HX.out]; exact hi), hxn, List.getD_eq_getElem?_getD, hc]
              rfl
            exact e.symm.trans HR2.out
          have hxd : decide ((xn : Int) < 0) = false := decide_eq_false hi
          have hx0 : (0 : Int) ≤ (xn : Int) := by omega
          have hxi : (xn : Int) < (t.s.cols.length : Int) := by omega
          clear y1 hxn HR2
          obtain ⟨wu, hwr⟩ : ∃ x : World, x = w6 := ⟨_, rfl⟩
          rw [← hwr] at hs6 ⊢
          clear hwr
          go_upto_region 4 with (go_at_call 122; (with_reducible refine (throw_no _ _).mono ?_); rintro e w9 ⟨rfl, h9⟩; obtain rfl := h9.symm)
          obtain ⟨d0, d1⟩ := At.z2 (HD.out.d.fut (w' := wu)).at0
          have ld := (HD.out.d.fut (w' := wu)).lt
          obtain ⟨t0, t1, t2, t3, t4, t5⟩ := At.z6 (HD.out.tb.fut (w' := wu)).at0
          have lt_ := (HD.out.tb.fut (w' := wu)).lt
          have ft_ := (HD.out.tb.fut (w' := wu)).free
          obtain ⟨o0, o1, o2, o3, o4, o5, o6, o7, o8, o9, o10, o11, o12, o13, o14, o15⟩ := At.zOp (HD.out.op.fut (w' := wu)).at0
          have lo := (HD.out.op.fut (w' := wu)).lt
          obtain ⟨bc, oc, hAc, hbc, hcc_⟩ := HSC.out.at_.elem (w' := wu) inferInstance (k := xn) (by simpa using hxl)
          obtain ⟨c0, c1, c2_⟩ := At.l3 (hcc_ xn c.cells (by simp [hc]))
          have hbcW : bc < wu.heap.size := by have := (fut w wu).size; omega
          rw [hAc] at t1
          have WV := fun w' => whole_any c.kind o.v w' hvs
          clear hcc_
          cases hw : wholeB c.kind o.v with
          | false =>
            have HE : Hid (R = .error 5) := by show _ = _; rw [← HR3.out, if_pos hw]
            rw [hw] at WV
            have WV := hide WV
            clear hw
            refine wp_region_held_drew (S := (fun w' => Step wu w' ∧ (∀ b o, b < wu.heap.size → w'.cell? ⟨b, o, none⟩ = wu.cell? ⟨b, o, none⟩))) (by kernel_rfl) (by (try dsimp only); (first | exact ⟨hS1, hS2⟩ | exact ⟨Step.of, (bcell (fut _ _)).1⟩)) (fun hHeld => ?_)
            refine wT 0 47 (by assumption) ?_
            refine wT 8 55 (by assumption) ?_
            refine wT 12 59 (by assumption) ?_
            refine wT 1 48 (by assumption) ?_
            refine wT 13 60 (by assumption) ?_
            refine wT 2 49 (by assumption) ?_
            refine wT 14 61 (by assumption) ?_
            refine wT 3 50 (by assumption) ?_
            refine wT 15 62 (by assumption) ?_
            refine wT 4 51 (by assumption) ?_
            refine wT 16 63 (by assumption) ?_
            refine wT 5 52 (by assumption) ?_
            refine wT 17 64 (by assumption) ?_
            refine wT 6 53 (by assumption) ?_
            refine wT 18 65 (by assumption) ?_
            refine wT 7 54 (by assumption) ?_
            refine wT 9 56 (by assumption) ?_
            refine wT 10 57 (by assumption) ?_
            refine wT 11 58 (by assumption) ?_
            refine wpAnyH_ready (rs := [19]) (by kernel_rfl) (by simp) ?_
            refine AllReadyH.cons (o := ⟨some 66, _, _, _, _, _⟩) rfl (fun K hK => ?_) AllReadyH.nil
            obtain ⟨hS1, hS2⟩ := hHeld
            go_simp
            (go_at_call 56; (with_reducible refine (WV.out _).mono ?_); rintro e w7 ⟨rfl, hs7⟩)
            refine hK.out _ _ (by (try dsimp only); (first | exact ⟨hS1, hS2⟩ | exact ⟨Step.of, (bcell (fut _ _)).1⟩)) (fun hHeld => ?_)
            clear hK K
            (try simp only [Act.put, List.setIfInBounds_toArray, List.set_cons_zero, List.set_cons_succ])
            refine wT 20 67 (by assumption) ?_
            refine wpAnyH_ready (rs := [21]) (by kernel_rfl) (by simp) ?_
            refine AllReadyH.cons (o := ⟨some 68, _, _, _, _, _⟩) rfl (fun K hK => ?_) AllReadyH.nil
            obtain ⟨hS1, hS2⟩ := hHeld
            go_simp
            (go_at_call 122; (with_reducible refine (throw_yes _ _).mono ?_); rintro e w9 ⟨rfl, h9⟩; obtain rfl := h9.symm)
            exact ⟨rfl, by rw [HE.out]; exact ⟨Mt.step hg (fut w _), rfl⟩⟩
          | true =>
            have HE : Hid (R = .ok ⟨t.s, t.sid, t.fs, setRows (t.rs.map RowA.vs) xn o.v l⟩) := by show _ = _; rw [← HR3.out, if_neg (by rw [hw]; simp)]
            rw [hw] at WV
            have WV := hide WV
            clear hw HR3
            refine wp_region_held_drew (S := (fun w' => Step wu w' ∧ (∀ b o, b < wu.heap.size → w'.cell? ⟨b, o, none⟩ = wu.cell? ⟨b, o, none⟩))) (by kernel_rfl) (by (try dsimp only); (first | exact ⟨hS1, hS2⟩ | exact ⟨Step.of, (bcell (fut _ _)).1⟩)) (fun hHeld => ?_)
            refine wT 0 47 (by assumption) ?_
            refine wT 8 55 (by assumption) ?_
            refine wT 12 59 (by assumption) ?_
            refine wT 1 48 (by assumption) ?_
            refine wT 13 60 (by assumption) ?_
            refine wT 2 49 (by assumption) ?_
            refine wT 14 61 (by assumption) ?_
            refine wT 3 50 (by assumption) ?_
            refine wT 15 62 (by assumption) ?_
            refine wT 4 51 (by assumption) ?_
            refine wT 16 63 (by assumption) ?_
            refine wT 5 52 (by assumption) ?_
            refine wT 17 64 (by assumption) ?_
            refine wT 6 53 (by assumption) ?_
            refine wT 18 65 (by assumption) ?_
            refine wT 7 54 (by assumption) ?_
            refine wT 9 56 (by assumption) ?_
            refine wT 10 57 (by assumption) ?_
            refine wT 11 58 (by assumption) ?_
            refine wpAnyH_ready (rs := [19]) (by kernel_rfl) (by simp) ?_
            refine AllReadyH.cons (o := ⟨some 66, _, _, _, _, _⟩) rfl (fun K hK => ?_) AllReadyH.nil
            obtain ⟨hS1, hS2⟩ := hHeld
            go_simp
            (go_at_call 56; (with_reducible refine (WV.out _).mono ?_); rintro e w7 ⟨rfl, hs7⟩)
            refine hK.out _ _ (by (try dsimp only); (first | exact ⟨hS1, hS2⟩ | exact ⟨Step.of, (bcell (fut _ _)).1⟩)) (fun hHeld => ?_)
            clear hK K
            (try simp only [Act.put, List.setIfInBounds_toArray, List.set_cons_zero, List.set_cons_succ])
            refine wT 20 67 (by assumption) ?_
            refine wpAnyH_ready (rs := [21]) (by kernel_rfl) (by simp) ?_
            refine AllReadyH.cons (o := ⟨some 68, _, _, _, _, _⟩) rfl (fun K hK => ?_) AllReadyH.nil
            obtain ⟨hS1, hS2⟩ := hHeld
            go_simp
            (go_at_call 122; (with_reducible refine (throw_no _ _).mono ?_); rintro e w9 ⟨rfl, h9⟩; obtain rfl := h9.symm)
            refine hK.out _ _ (by (try dsimp only); (first | exact ⟨hS1, hS2⟩ | exact ⟨Step.of, (bcell (fut _ _)).1⟩)) (fun hHeld => ?_)
            clear hK K
            (try simp only [Act.put, List.setIfInBounds_toArray, List.set_cons_zero, List.set_cons_succ])
            refine wpAnyH_done (by kernel_rfl) ?_ _
            clear d0 d1 ld t0 t1 t2 t3 t4 t5 lt_ ft_ o0 o1 o2 o3 o4 o5 o6 o7 o8 o9 o10 o11 o12 o13 o14 o15 lo c0 c1 c2_
            obtain ⟨wl, hwl⟩ : ∃ x : World, x = w7 := ⟨_, rfl⟩
            rw [← hwl] at hs7 ⊢
            clear hwl
            have hzl := (fut w wl).size
            have hll : l.length ≤ 4096 := by have := HLB.out.2; omega
            have HO5 : Hid (Own wl w.heap.size 3 1 (.slice A4 l.length c4) (intCells l)) := (HO4.out.more (fut w wp).size).fut
            have HDL : Hid (Doer wl g D T O t o) := HD.out.fut
            go_wp2_with fail
            go_loopw [5, 71] (fun _ i wx => ∃ (k : Nat) (rs : List RowA), k ≤ l.length ∧ i = .int .i64 k ∧ Hid (rs.map RowA.vs = setRows (t.rs.map RowA.vs) xn o.v (l.take k)) ∧ Hid (rs.length = t.rs.length) ∧ Hid (∀ r ∈ rs, r.vs.length = t.s.cols.length) ∧ Doer wx g D T O (t.with_ rs) o ∧ Mt g T w wx ∧ Own wx w.heap.size 3 1 (.slice A4 l.length c4) (intCells l) ∧ w.heap.size ≤ wx.heap.size) (fun _ i _ => l.length - (intOf i).toNat)
            case atStart => exact ⟨0, t.rs, Nat.zero_le _, rfl, rfl, rfl, HROW, HDL.out.fut, Mt.step hg (fut w _), HO5.out.fut, (fut w _).size⟩
            case round =>
              clear HO5 HDL
              obtain ⟨k, rs, hk, rfl, HVS, HRL, HLN, hdo, hmt, hol, hsz⟩ := hrel
              have HDO := hide hdo; have HMT := hide hmt; have HOL := hide hol
              clear hdo hmt hol
              obtain ⟨wo, rfl⟩ : ∃ x : World, x = wr := ⟨_, rfl⟩
              by_cases hlt : k < l.length
              · obtain ⟨b4, off4, hA4, hb4, hc4⟩ := (HOL.out.sl (int_fit _).len).elem (w' := wo) inferInstance (k := k) (by rw [intCells_len]; exact hlt)
                obtain ⟨kx, hkx⟩ : ∃ kx, l[k]? = some kx := ⟨_, List.getElem?_eq_getElem hlt⟩
                obtain ⟨hk0, hk1⟩ := HLB.out.1 kx (List.mem_of_getElem? hkx)
                obtain ⟨kn, rfl⟩ : ∃ kn : Nat, kx = (kn : Int) := ⟨kx.toNat, by omega⟩
                have q0 := At.l1 (hc4 k [.int .i64 (kn : Int)] (by simp [intCells, hkx]))
                simp only [Nat.mul_one] at q0
                have hkl : (k : Int) < (l.length : Int) := by omega
                have hkz : (0 : Int) ≤ (k : Int) := by omega
                have hknl : kn < rs.length := by rw [HRL.out]; omega
                obtain ⟨r, hr⟩ : ∃ r, rs[kn]? = some r := ⟨_, List.getElem?_eq_getElem hknl⟩
                have hrl := HLN.out r (List.mem_of_getElem? hr)
                obtain ⟨u, hu⟩ : ∃ u, r.vs[xn]? = some u := ⟨_, List.getElem?_eq_getElem (by omega)⟩
                obtain ⟨gR, hAr, hgR, hltR, hcell, hfzR, _, _⟩ := HDO.out.own.rows.row hr
                obtain ⟨gV, hAv, hgV, hltV, hat, hfz, hput⟩ := HDO.out.putV hr hu (by omega)
                have HPUT := hide (hput o.v)
                have HVB : Hid (∃ cur, Blk wo gV 36 cur) := by
                  obtain ⟨g2, cur, e2, _, _, hb2, _⟩ := (HDO.out.own.rows.rows.rows r (List.mem_of_getElem? hr)).blk (by simp; omega)
                  rw [hAv] at e2
                  injection e2 with e2
                  injection e2 with e2
                  subst e2
                  exact ⟨cur, hb2⟩
                have HRB : Hid (∃ cur, Blk wo gR 67 cur) := by
                  obtain ⟨g2, cur, e2, _, _, hb2, _⟩ := HDO.out.own.rows.rows.out.blk (by show 0 < (rs.map RowA.cells).length; rw [List.length_map, HRL.out]; omega)
                  have e3 : t.Ar = some ⟨gR, 0, none⟩ := hAr
                  have e4 : t.Ar = some ⟨g2, 0, none⟩ := e2
                  rw [e3] at e4
                  injection e4 with e4
                  injection e4 with e4
                  subst e4
                  exact ⟨cur, hb2⟩
                have hDV : D ≠ gV := by obtain ⟨_, hb⟩ := HVB.out; exact HDO.out.d.ne_ hb (by decide)
                have hTV : T ≠ gV := by obtain ⟨_, hb⟩ := HVB.out; exact HDO.out.tb.ne_ hb (by decide)
                have hOV : O ≠ gV := by obtain ⟨_, hb⟩ := HVB.out; exact HDO.out.op.ne_ hb (by decide)
                have hRV : gR ≠ gV := by obtain ⟨_, hb⟩ := HVB.out; obtain ⟨_, hb2⟩ := HRB.out; exact hb2.ne_ hb (by decide)
                have HVS2 : Hid ((rs.set kn ⟨r.A, r.cap, r.vs.set xn o.v⟩).map RowA.vs = setRows (t.rs.map RowA.vs) xn o.v (l.take (k + 1))) := by
                  show _ = _
                  rw [setRows_snoc hkx, ← HVS.out, Int.toNat_natCast]
                  exact map_set_modify (f := fun vs => vs.set xn o.v) hr
                have HRL2 : Hid ((rs.set kn ⟨r.A, r.cap, r.vs.set xn o.v⟩).length = t.rs.length) := by show _ = _; rw [List.length_set]; exact HRL.out
                have HLN2 : Hid (∀ z ∈ rs.set kn ⟨r.A, r.cap, r.vs.set xn o.v⟩, z.vs.length = t.s.cols.length) := by
                  intro z hz
                  rcases List.mem_or_eq_of_mem_set hz with hz | rfl
                  · exact HLN.out z hz
                  · show (r.vs.set xn o.v).length = _
                    rw [List.length_set]
                    exact hrl
                have HDO2 : Hid (Doer (((((wo.setCell ⟨gV, xn * 4, none⟩ (.int .i64 o.v.kind)).setCell ⟨gV, xn * 4 + 1, none⟩ (.int .i64 o.v.i)).setCell ⟨gV, xn * 4 + 2, none⟩ (.bool o.v.b)).setCell ⟨gV, xn * 4 + 3, none⟩ (.string o.v.s)).drew) g D T O (t.with_ (rs.set kn ⟨r.A, r.cap, r.vs.set xn o.v⟩)) o) := HPUT.out.1.fut (w' := (set4 wo gV (xn * 4) o.v).drew)
                have HMT2 : Hid (Mt g T w (((((wo.setCell ⟨gV, xn * 4, none⟩ (.int .i64 o.v.kind)).setCell ⟨gV, xn * 4 + 1, none⟩ (.int .i64 o.v.i)).setCell ⟨gV, xn * 4 + 2, none⟩ (.bool o.v.b)).setCell ⟨gV, xn * 4 + 3, none⟩ (.string o.v.s)).drew)) := (HMT.out.trans HPUT.out.2).drew
                have HSZ2 : Hid (w.heap.size ≤ (((((wo.setCell ⟨gV, xn * 4, none⟩ (.int .i64 o.v.kind)).setCell ⟨gV, xn * 4 + 1, none⟩ (.int .i64 o.v.i)).setCell ⟨gV, xn * 4 + 2, none⟩ (.bool o.v.b)).setCell ⟨gV, xn * 4 + 3, none⟩ (.string o.v.s)).drew).heap.size) := by
                  show _ ≤ _
                  have := (set4_grown wo gV (xn * 4) o.v).size
                  have h2 : (set4 wo gV (xn * 4) o.v).heap.size = (((((wo.setCell ⟨gV, xn * 4, none⟩ (.int .i64 o.v.kind)).setCell ⟨gV, xn * 4 + 1, none⟩ (.int .i64 o.v.i)).setCell ⟨gV, xn * 4 + 2, none⟩ (.bool o.v.b)).setCell ⟨gV, xn * 4 + 3, none⟩ (.string o.v.s)).drew).heap.size := rfl
                  omega
                have HOL2 : Hid (Own (((((wo.setCell ⟨gV, xn * 4, none⟩ (.int .i64 o.v.kind)).setCell ⟨gV, xn * 4 + 1, none⟩ (.int .i64 o.v.i)).setCell ⟨gV, xn * 4 + 2, none⟩ (.bool o.v.b)).setCell ⟨gV, xn * 4 + 3, none⟩ (.string o.v.s)).drew) w.heap.size 3 1 (.slice A4 l.length c4) (intCells l)) := by
                  obtain ⟨_, hb⟩ := HVB.out
                  have := HOL.out.grown_other (set4_grown wo gV (xn * 4) o.v) (fun q hq hh => by
                    injection hh with hh
                    subst hh
                    exact HOL.out.ne_ hb (by decide) hq.symm)
                  exact this.fut (w' := (set4 wo gV (xn * 4) o.v).drew)
                have HC24 : Hid (∀ (b o' : Nat), b ≠ gV → (((((wo.setCell ⟨gV, xn * 4, none⟩ (.int .i64 o.v.kind)).setCell ⟨gV, xn * 4 + 1, none⟩ (.int .i64 o.v.i)).setCell ⟨gV, xn * 4 + 2, none⟩ (.bool o.v.b)).setCell ⟨gV, xn * 4 + 3, none⟩ (.string o.v.s)).drew).cell? ⟨b, o', none⟩ = wo.cell? ⟨b, o', none⟩) := fun b o' hn => set4_cellD wo hn.symm (xn * 4) o.v o'
                clear HVB HRB HPUT hput hkx hr hu
                obtain ⟨d0, d1⟩ := At.z2 (HDO.out.d.fut (w' := wo)).at0
                have ld := (HDO.out.d.fut (w' := wo)).lt
                obtain ⟨t0, t1, t2, t3, t4, t5⟩ := At.z6 (HDO.out.tb.fut (w' := wo)).at0
                have lt_ := (HDO.out.tb.fut (w' := wo)).lt
                have ft_ := (HDO.out.tb.fut (w' := wo)).free
                obtain ⟨o0, o1, o2, o3, o4, o5, o6, o7, o8, o9, o10, o11, o12, o13, o14, o15⟩ := At.zOp (HDO.out.op.fut (w' := wo)).at0
                have lo := (HDO.out.op.fut (w' := wo)).lt
                unfold TbA.cells TbA.with_ at *
                simp only at t0 t1 t2 t3 t4 t5
                have hAr2 : t.Ar = some ⟨gR, 0, none⟩ := hAr
                rw [hAr2] at t5
                rw [hAv] at hcell
                obtain ⟨k0, k1, k2, k3⟩ := At.l4 hat
                rw [hA4]
                have hkn0 : (0 : Int) ≤ (kn : Int) := by omega
                have hkni : (kn : Int) < (rs.length : Int) := by omega
                have hxri : (xn : Int) < (r.vs.length : Int) := by omega
                go_upto_region 8 with fail
                refine wp_region_held_drew (S := (fun w' => True ∧ (∀ b o, b < wo.heap.size → b ≠ gV → w'.cell? ⟨b, o, none⟩ = wo.cell? ⟨b, o, none⟩))) (by kernel_rfl) (by (try dsimp only); (first | exact ⟨hS1, hS2⟩ | exact ⟨trivial, fun b o h _ => rfl⟩)) (fun hHeld => ?_)
                refine wT 0 75 (by assumption) ?_
                refine wT 7 82 (by assumption) ?_
                refine wT 11 86 (by assumption) ?_
                refine wT 12 87 (by assumption) ?_
                refine wT 1 76 (by assumption) ?_
                refine wT 13 88 (by assumption) ?_
                refine wT 2 77 (by assumption) ?_
                refine wT 14 89 (by assumption) ?_
                refine wT 3 78 (by assumption) ?_
                refine wT 15 90 (by assumption) ?_
                refine wT 4 79 (by assumption) ?_
                refine wT 16 91 (by assumption) ?_
                refine wT 5 80 (by assumption) ?_
                refine wT 17 92 (by assumption) ?_
                refine wT 6 81 (by assumption) ?_
                refine wT 18 93 (by assumption) ?_
                refine wT 8 83 (by assumption) ?_
                refine wT 9 84 (by assumption) ?_
                refine wT 10 85 (by assumption) ?_
                refine wT 19 94 (by assumption) ?_
                refine wpAnyH_ready (rs := [20]) (by kernel_rfl) (by simp) ?_
                refine AllReadyH.cons (o := ⟨none, _, _, _, _, _⟩) rfl (fun K hK => ?_) AllReadyH.nil
                go_simp
                refine hK.out _ _ (by (try dsimp only); (with_reducible exact ⟨trivial, fun b o h hn => HC24.out b o hn⟩)) (fun hHeld => ?_)
                clear hK K
                (try simp only [Act.put, List.setIfInBounds_toArray, List.set_cons_zero, List.set_cons_succ])
                refine wpAnyH_done (by kernel_rfl) ?_ _
                obtain ⟨Y, hY⟩ : ∃ y : World, y = ((((wo.setCell ⟨gV, xn * 4, none⟩ (.int .i64 o.v.kind)).setCell ⟨gV, xn * 4 + 1, none⟩ (.int .i64 o.v.i)).setCell ⟨gV, xn * 4 + 2, none⟩ (.bool o.v.b)).setCell ⟨gV, xn * 4 + 3, none⟩ (.string o.v.s)).drew := ⟨_, rfl⟩
                rw [← hY] at HDO2 HOL2 HMT2 HSZ2
                rw [← hY]
                clear hY HC24
                clear d0 d1 ld t0 t1 t2 t3 t4 t5 lt_ ft_ o0 o1 o2 o3 o4 o5 o6 o7 o8 o9 o10 o11 o12 o13 o14 o15 lo q0 k0 k1 k2 k3 hfz
                go_wp2_with fail
                go_roundw
                case rel => exact ⟨k + 1, rs.set kn ⟨r.A, r.cap, r.vs.set xn o.v⟩, by omega, by go_num, HVS2.out, HRL2.out, HLN2.out, HDO2.out, HMT2.out, (by rw [← hA4]; exact HOL2.out), HSZ2.out⟩
                case measure => simp [intOf]; omega
              · obtain rfl : k = l.length := by omega
                go_wp2_with fail
                go_end0
                rw [HE.out]
                exact ⟨HMT.out, rfl, t.with_ rs, by show (⟨t.s, t.sid, t.fs, rs.map RowA.vs⟩ : Tb) = _; rw [HVS.out, List.take_length], HDO.out.tb, HDO.out.own.r⟩
end Go.Proofs.YtnphokhehacfnaaGreatDoor

