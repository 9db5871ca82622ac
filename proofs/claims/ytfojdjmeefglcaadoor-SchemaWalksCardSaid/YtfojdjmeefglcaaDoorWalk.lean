/-
  The law SchemaWalks answers true for every picks.
-/
import Derived.Test.YtfojdjmeefglcaaDoorWalkP
import Derived.Test.YtfojdjmeefglcaaDoorFull
import Derived.Test.YtfojdjmeefglcaaDoorP
import Derived.Deep.CutBlock
namespace Go.Proofs.YtfojdjmeefglcaaDoor
open Go.RowKit

def boolCells (n : Nat) : List (List Value) := (List.range n).map fun i => [.bool (i != 0)]
theorem bool_fit (n : Nat) : Fit 1 (boolCells n) := Fit.map (f := fun i : Nat => [Value.bool (i != 0)]) (fun i => ⟨rfl, fun u hu => by simp at hu; rw [hu]; rfl⟩) _
theorem boolCells_len (n : Nat) : (boolCells n).length = n := by simp [boolCells]
theorem boolCells_succ (n : Nat) (h : n ≠ 0) : boolCells (n + 1) = boolCells n ++ [[.bool true]] := by
  have : (n != 0) = true := by simpa using h
  simp [boolCells, List.range_succ, this]
theorem eiBool : EI Tryd.prog 46 4 1 1 :=
  ⟨Tryd.underlying46, info_parts (show (Tryd.prog.info? 4).map (fun i => (i.zero, i.size, i.bytes)) = some (some (.bool false), 1, 1) by kernel_rfl) |>.elim fun i h => ⟨i, _, h.1, h.2.1, h.2.2.1, h.2.2.2, rfl⟩, by decide, by decide⟩
def five : List Value := [.string (str [97]), .string (str [98]), .string (str [99]), .string (str [100]), .string (str [101])]
theorem five_get {r : Nat} (h : r < 5) : ∃ x : ByteArray, five[r]? = some (.string x) ∧ x.size ≤ 1 := by
  match r, h with
  | 0, _ => exact ⟨_, rfl, by decide⟩
  | 1, _ => exact ⟨_, rfl, by decide⟩
  | 2, _ => exact ⟨_, rfl, by decide⟩
  | 3, _ => exact ⟨_, rfl, by decide⟩
  | 4, _ => exact ⟨_, rfl, by decide⟩

/-- What stands at the head of each round. -/
structure WRel (w wr : World) (bn bs base : Nat) (s : Sch) (A : Option Addr) (v : Nat) (sv : Value) (L : Nat) : Prop where
  may : mayB s = true
  names : Blk wr bn 9 five
  box : Blk wr bs 24 [.int .i64 s.id, .slice A s.cols.length v, .int .i64 s.next]
  sown : Own wr w.heap.size 49 3 (.slice A s.cols.length v) (s.cols.map Col.cells)
  own : Own wr base 4 1 sv (boolCells L)
  len : (L : Int) = s.next
  step : Step w wr

theorem own_ne {w : World} {base base' : Nat} {e e' : TypeId} {size size' : Nat} {v v' : Value} {l l' : List (List Value)} (h : Own w base e size v l) (h' : Own w base' e' size' v' l') (hne : e ≠ e') : ∀ k, v.ownBlock = some k → v'.ownBlock ≠ some k := by
  intro k hk hk'
  rcases h.2 with ⟨rfl, _⟩ | ⟨g, cap, cur, rfl, _, hh, _⟩
  · simp [Value.ownBlock] at hk
  · rcases h'.2 with ⟨rfl, _⟩ | ⟨g', cap', cur', rfl, _, hh', _⟩
    · simp [Value.ownBlock] at hk'
    · simp [Value.ownBlock] at hk hk'
      subst hk; subst hk'
      rw [hh] at hh'
      injection hh' with hh'
      injection hh' with _ ht
      exact hne ht
theorem SchIn.of_own {w : World} {base : Nat} {s : Sch} {A : Option Addr} {v : Nat} (h : Own w base 49 3 (.slice A s.cols.length v) (s.cols.map Col.cells)) (hf : Fine s) : SchIn w s A v := by
  obtain ⟨A', v', hv, h1, h2, h3, _⟩ := h.slice (cols_fit _).len (by simp : (s.cols.map Col.cells).length = s.cols.length)
  injection hv with e1 e2 e3
  subst e1; subst e3
  exact ⟨h1, by simpa [maxLen] using h2, Nat.le_trans hf.1 (by decide), h3, fun c hc => Nat.le_trans (hf.2 c hc) (by decide)⟩
theorem WRel.sin {w wr : World} {bn bs base : Nat} {s : Sch} {A : Option Addr} {v : Nat} {sv : Value} {L : Nat} (h : WRel w wr bn bs base s A v sv L) : SchIn wr s A v := SchIn.of_own h.sown (may_fine h.may)
/-- What stands behind the switch: the change's answer r in block tb. -/
structure Sw (w wx : World) (bn bs base ob tb : Nat) (s : Sch) (A : Option Addr) (v : Nat) (r : Sch × Int) (A5 : Option Addr) (v5 : Nat) (sv : Value) (L : Nat) : Prop where
  names : Blk wx bn 9 five
  box : Blk wx bs 24 [.int .i64 s.id, .slice A s.cols.length v, .int .i64 s.next]
  sown : Own wx w.heap.size 49 3 (.slice A s.cols.length v) (s.cols.map Col.cells)
  own : Own wx base 4 1 sv (boolCells L)
  obx : Blk wx ob 24 [.int .i64 s.id, .slice A s.cols.length v, .int .i64 s.next]
  tbx : Blk wx tb 24 [.int .i64 r.1.id, .slice A5 r.1.cols.length v5, .int .i64 r.1.next]
  rown : Own wx w.heap.size 49 3 (.slice A5 r.1.cols.length v5) (r.1.cols.map Col.cells)
  fine : Fine r.1
  step : Step w wx
theorem Sw.drew {w wx : World} {bn bs base ob tb : Nat} {s : Sch} {A : Option Addr} {v : Nat} {r : Sch × Int} {A5 : Option Addr} {v5 : Nat} {sv : Value} {L : Nat} (h : Sw w wx bn bs base ob tb s A v r A5 v5 sv L) : Sw w wx.drew bn bs base ob tb s A v r A5 v5 sv L :=
  ⟨h.names, h.box, h.sown, h.own, h.obx, h.tbx, h.rown, h.fine, have := h.step; Step.of⟩
theorem Sw.al {w wx : World} {bn bs base ob tb : Nat} {s : Sch} {A : Option Addr} {v : Nat} {r : Sch × Int} {A5 : Option Addr} {v5 : Nat} {sv : Value} {L : Nat} (h : Sw w wx bn bs base ob tb s A v r A5 v5 sv L) (o : Obj) : Sw w (wx.alloc o) bn bs base ob tb s A v r A5 v5 sv L :=
  ⟨h.names.alloc o, h.box.alloc o, h.sown.alloc o, h.own.alloc o, h.obx.alloc o, h.tbx.alloc o, h.rown.alloc o, h.fine, have := h.step; Step.of⟩
/-- The answer is stored into t. -/
theorem Sw.put {w w5 : World} {bn bs base ob tb : Nat} {s : Sch} {A : Option Addr} {v : Nat} {sv : Value} {L : Nat} {r0 : Sch × Int} {A0 : Option Addr} {v0 : Nat} (h : Sw w w5 bn bs base ob tb s A v r0 A0 v0 sv L) (hbn : bn ≠ tb) (hbs : bs ≠ tb) (hob : ob ≠ tb) (hw : w.heap.size ≤ tb)
    {r : Sch × Int} {A5 : Option Addr} {v5 : Nat} (hr : Own w5 w.heap.size 49 3 (.slice A5 r.1.cols.length v5) (r.1.cols.map Col.cells)) (hf : Fine r.1) :
    Sw w (((w5.setCell ⟨tb, 0, none⟩ (.int .i64 r.1.id)).setCell ⟨tb, 1, none⟩ (.slice A5 r.1.cols.length v5)).setCell ⟨tb, 2, none⟩ (.int .i64 r.1.next)) bn bs base ob tb s A v r A5 v5 sv L :=
  ⟨((h.names.far (p := ⟨tb, 0, none⟩) hbn _).far (p := ⟨tb, 1, none⟩) hbn _).far (p := ⟨tb, 2, none⟩) hbn _, ((h.box.far (p := ⟨tb, 0, none⟩) hbs _).far (p := ⟨tb, 1, none⟩) hbs _).far (p := ⟨tb, 2, none⟩) hbs _,
    h.sown.store3 h.tbx (by show (49 : Nat) ≠ 24; decide) _ _ _, h.own.store3 h.tbx (by show (4 : Nat) ≠ 24; decide) _ _ _, ((h.obx.far (p := ⟨tb, 0, none⟩) hob _).far (p := ⟨tb, 1, none⟩) hob _).far (p := ⟨tb, 2, none⟩) hob _,
    h.tbx.put3 _ _ _, hr.store3 h.tbx (by show (49 : Nat) ≠ 24; decide) _ _ _, hf, ⟨below3 h.step.below hw _ _ _⟩⟩
/-- Nothing but new memory. -/
theorem Sw.fut {w w5 w6 : World} {bn bs base ob tb : Nat} {s : Sch} {A : Option Addr} {v : Nat} {sv : Value} {L : Nat} {r : Sch × Int} {A5 : Option Addr} {v5 : Nat} (h : Sw w w5 bn bs base ob tb s A v r A5 v5 sv L) [k : Fut w5 w6] : Sw w w6 bn bs base ob tb s A v r A5 v5 sv L :=
  ⟨h.names.fut, h.box.fut, h.sown.fut, h.own.fut, h.obx.fut, h.tbx.fut, h.rown.fut, h.fine, have := h.step; ⟨h.step.below.trans (k.below.mono h.step.size)⟩⟩
/-- Something is appended to seen. -/
theorem Sw.grow {w w5 w6 : World} {bn bs base ob tb : Nat} {s : Sch} {A : Option Addr} {v : Nat} {sv sv' : Value} {L L' : Nat} {r : Sch × Int} {A5 : Option Addr} {v5 : Nat} (h : Sw w w5 bn bs base ob tb s A v r A5 v5 sv L) (hg : w5.grownBy w6 sv.ownBlock) (ho : Own w6 base 4 1 sv' (boolCells L')) (hb : w.heap.size ≤ base) (hb2 : base ≤ w5.heap.size) :
    Sw w w6 bn bs base ob tb s A v r A5 v5 sv' L' :=
  ⟨h.names.grown hg (h.own.ne_ h.names (by decide)), h.box.grown hg (h.own.ne_ h.box (by decide)), h.sown.grown_other hg (fun k hk e => own_ne h.sown h.own (by decide) k hk e), ho, h.obx.grown hg (h.own.ne_ h.obx (by decide)), h.tbx.grown hg (h.own.ne_ h.tbx (by decide)),
    h.rown.grown_other hg (fun k hk e => own_ne h.rown h.own (by decide) k hk e), h.fine, ⟨h.step.below.trans ((below_of_grown h.own hg hb2).mono hb)⟩⟩
/-- What is behind the switch, where the change was not taken. -/
theorem Sw.rel {w wx : World} {bn bs base ob tb : Nat} {s : Sch} {A : Option Addr} {v : Nat} {r : Sch × Int} {A5 : Option Addr} {v5 : Nat} {sv : Value} {L : Nat} (h : Sw w wx bn bs base ob tb s A v r A5 v5 sv L) (hm : mayB s = true) (hL : (L : Int) = s.next) : WRel w wx bn bs base s A v sv L :=
  ⟨hm, h.names, h.box, h.sown, h.own, hL, h.step⟩
/-- .. and where it was: the answer is the schema from now on. -/
theorem Sw.next {w wx : World} {bn bs base ob tb : Nat} {s : Sch} {A : Option Addr} {v : Nat} {r : Sch × Int} {A5 : Option Addr} {v5 : Nat} {sv : Value} {L : Nat} (h : Sw w wx bn bs base ob tb s A v r A5 v5 sv L) (hm : mayB r.1 = true) (hb : bn ≠ bs) (hw : w.heap.size ≤ bs) (hL : (L : Int) = r.1.next) :
    WRel w (((wx.setCell ⟨bs, 0, none⟩ (.int .i64 r.1.id)).setCell ⟨bs, 1, none⟩ (.slice A5 r.1.cols.length v5)).setCell ⟨bs, 2, none⟩ (.int .i64 r.1.next)) bn bs base r.1 A5 v5 sv L :=
  ⟨hm, ((h.names.far (p := ⟨bs, 0, none⟩) hb _).far (p := ⟨bs, 1, none⟩) hb _).far (p := ⟨bs, 2, none⟩) hb _, h.box.put3 _ _ _, h.rown.store3 h.box (by show (49 : Nat) ≠ 24; decide) _ _ _,
    h.own.store3 h.box (by show (4 : Nat) ≠ 24; decide) _ _ _, hL, ⟨below3 h.step.below hw _ _ _⟩⟩
theorem WRel.drew {w wr : World} {bn bs base : Nat} {s : Sch} {A : Option Addr} {v : Nat} {sv : Value} {L : Nat} (h : WRel w wr bn bs base s A v sv L) : WRel w wr.drew bn bs base s A v sv L :=
  ⟨h.may, h.names, h.box, h.sown, h.own, h.len, have := h.step; Step.of⟩
theorem and3 (x : Int) : bits .and .i64 x 3 = x % 4 := by
  show IntKind.i64.wrap ((BitVec.ofInt 64 x &&& BitVec.ofInt 64 3).toNat : Int) = _
  have h : (BitVec.ofInt 64 3).toNat = 2 ^ 2 - 1 := by decide
  rw [BitVec.toNat_and, h, Nat.and_two_pow_sub_one_eq_mod, BitVec.toNat_ofInt, IntKind.wrap_i64]
  omega
theorem and1 (x : Int) : bits .and .i64 x 1 = x % 2 := by
  show IntKind.i64.wrap ((BitVec.ofInt 64 x &&& BitVec.ofInt 64 1).toNat : Int) = _
  have h : (BitVec.ofInt 64 1).toNat = 2 ^ 1 - 1 := by decide
  rw [BitVec.toNat_and, h, Nat.and_two_pow_sub_one_eq_mod, BitVec.toNat_ofInt, IntKind.wrap_i64]
  omega
set_option maxRecDepth 100000 in
set_option maxHeartbeats 8000000 in
theorem walks_any (ps : List Int) (Ap : Option Addr) (cp : Nat) (w : World) (hp : SlAt w w.heap.size 1 Ap (intCells ps)) (hps : ps.length ≤ 17592186043904) :
    Calls Tryd.prog 4 #[.slice Ap ps.length cp] w fun e w' => e = .returned (.bool true) ∧ Step w w' := by
  go_enter Tryd.func4, Tryd.ntmps4
  go_wp2_with fail
  refine (pawake w).mono ?_
  rintro e w1 ⟨rfl, hs1⟩
  have HN1 := hide (SlAt.strs1 (w := w1) rfl ⟨#[97]⟩)
  have HN2 := hide (SlAt.ints1 (w := w1.alloc (.cells #[.string ⟨#[97]⟩] 9)) (b := w1.heap.size + 1) (by simp) 1)
  have hc := fun w' [Fut (w1.alloc (.cells #[.string ⟨#[97]⟩] 9)) w'] [Fut ((w1.alloc (.cells #[.string ⟨#[97]⟩] 9)).alloc (.cells #[.int .i64 1] 3)) w'] => pnew [str [97]] [1] (some ⟨w1.heap.size, 0, none⟩) (some ⟨w1.heap.size + 1, 0, none⟩) 1 1 w' HN1.out HN2.out (by decide) (by intro n hn; simp at hn; rw [hn]; decide)
  rw [sn_a] at hc
  have HC := hide hc; clear hc
  go_wp2_with fail
  refine (HC.out _).mono ?_
  intro e w2 hr
  obtain ⟨A2, v2, rfl, hi2, ho2, hs2⟩ := hr
  have z1 := hs1.size
  have z2 := hs2.size
  simp only [hsz] at z2
  clear HC HN1 HN2
  have HREL : Hid (WRel w (((w2.alloc (.cells #[.int .i64 sn0.id, .slice A2 sn0.cols.length v2, .int .i64 sn0.next] 24)).alloc (.cells #[.string ⟨#[97]⟩, .string ⟨#[98]⟩, .string ⟨#[99]⟩, .string ⟨#[100]⟩, .string ⟨#[101]⟩] 9)).alloc (.cells #[.bool false, .bool true] 4)) (w2.heap.size + 1) w2.heap.size w2.heap.size sn0 A2 v2 (.slice (some ⟨w2.heap.size + 2, 0, none⟩) 2 2) 2) :=
    ⟨by kernel_rfl, (Blk.new_at (b := w2.heap.size + 1) (by simp) five _).alloc _, ((Blk.new w2 [.int .i64 sn0.id, .slice A2 sn0.cols.length v2, .int .i64 sn0.next] 24).alloc _).alloc _, (ho2.fut).more (by simp only [hsz]; omega),
      Own.of_blk (Blk.new_at (b := w2.heap.size + 2) (by simp) [.bool false, .bool true] _) (by omega) rfl (bool_fit 2).len (Nat.le_refl _) (by decide) rfl rfl, rfl, Step.of⟩
  go_wp2_with fail
  go_loopw [6, 7, 8, 9, 10, 11, 12, 13, 14, 15, 16, 17, 18] (fun sv i _ _ _ _ _ _ _ _ _ _ _ wr => ∃ (k : Nat) (s : Sch) (A As : Option Addr) (v L cs : Nat), k ≤ ps.length ∧ k ≤ 60 ∧ i = .int .i64 k ∧ sv = .slice As L cs ∧ WRel w wr (w2.heap.size + 1) w2.heap.size w2.heap.size s A v (.slice As L cs) L) (fun _ i _ _ _ _ _ _ _ _ _ _ _ _ => 60 - (intOf i).toNat)
  case atStart => exact ⟨0, sn0, A2, _, v2, 2, 2, Nat.zero_le _, Nat.zero_le _, rfl, rfl, HREL.out⟩
  case round =>
    obtain ⟨k, s, A, As, v, L, cs, hk, hk6, rfl, rfl, hrel⟩ := hrel
    have HW := hide hrel
    have hin := hrel.sin
    obtain ⟨hmay, hnm, hbx, hso, hown, hlen, hst⟩ := hrel
    by_cases hlt : k < ps.length
    · by_cases h60 : k < 60
      · obtain ⟨p, hpk⟩ : ∃ p, ps[k]? = some p := ⟨_, List.getElem?_eq_getElem hlt⟩
        obtain ⟨bp, op, rfl, hbp, hcp⟩ := hp.elem (w' := wr) inferInstance (k := k) (by simpa [intCells] using hlt)
        have p0 := At.l1 (hcp k [.int .i64 p] (by simp [intCells, hpk]))
        simp only [Nat.mul_one] at p0
        have HPK := hide hpk; clear hcp hpk
        have hzr := hst.size
        have hbp' : bp < wr.heap.size := by omega
        have hu0 : 0 ≤ IntKind.u64.wrap p := by rw [IntKind.wrap_u64]; omega
        have hu1 : IntKind.u64.wrap p < 18446744073709551616 := by rw [IntKind.wrap_u64]; omega
        obtain ⟨rx, hrx, hrx5⟩ : ∃ r : Nat, (IntKind.u64.wrap p).tmod 5 = (r : Int) ∧ r < 5 := ⟨(IntKind.u64.wrap p % 5).toNat, by rw [Int.tmod_eq_emod_of_nonneg hu0]; omega, by omega⟩
        obtain ⟨ry, hry, hry5⟩ : ∃ r : Nat, (IntKind.u64.wrap ((IntKind.u64.wrap p).tdiv 5)).tmod 5 = (r : Int) ∧ r < 5 := ⟨(IntKind.u64.wrap p / 5 % 5).toNat, by rw [Int.tdiv_eq_ediv_of_nonneg hu0, show IntKind.u64.wrap (IntKind.u64.wrap p / 5) = IntKind.u64.wrap p / 5 by rw [IntKind.wrap_u64 (_ / 5)]; omega, Int.tmod_eq_emod_of_nonneg (by omega)]; omega, by omega⟩
        obtain ⟨x, hx, hxs⟩ := five_get hrx5
        obtain ⟨y, hy, hys⟩ := five_get hry5
        have x0 : wr.cell? ⟨w2.heap.size + 1, rx, none⟩ = some (.string x) := by simpa using hnm.at0 rx _ hx
        have y0 : wr.cell? ⟨w2.heap.size + 1, ry, none⟩ = some (.string y) := by simpa using hnm.at0 ry _ hy
        have hrx6 : (rx : Int) < 5 := by omega
        have hry6 : (ry : Int) < 5 := by omega
        have hrx7 : (0 : Int) ≤ (rx : Int) := by omega
        have hry7 : (0 : Int) ≤ (ry : Int) := by omega
        clear hx hy
        go_upto_region 9 with (fail)
        go_cut [8, 9] from 29 to 57 (fun a b wx => a = .string x ∧ b = .string y ∧ WRel w wx (w2.heap.size + 1) w2.heap.size w2.heap.size s A v (.slice As L cs) L)
        case first =>
          go_region
          all_goals
            go_wp2_with fail
            go_meet
            case rel => exact ⟨rfl, rfl, HW.out.drew⟩
        case rest =>
          obtain ⟨rfl, rfl, hrel⟩ := hcut
          obtain ⟨wq, rfl⟩ : ∃ x : World, x = wc := ⟨_, rfl⟩
          clear HW hnm hbx hin hso hown hst hzr p0 x0 y0 hrx hry hrx5 hry5 hrx6 hry6 hrx7 hry7 hu0 hu1
          have HW := hide hrel
          have hin := hrel.sin
          obtain ⟨hmay, hnm, hbx, hso, hown, hlen', hst⟩ := hrel
          have hzr := hst.size
          obtain ⟨b', o', hA', _, hcp⟩ := hp.elem (w' := wq) inferInstance (k := k) (by simpa [intCells] using hlt)
          obtain ⟨rfl, rfl⟩ : bp = b' ∧ op = o' := by simpa using hA'
          have p0 := At.l1 (hcp k [.int .i64 p] (by simp [intCells, HPK.out]))
          simp only [Nat.mul_one] at p0
          clear hcp hA'
          have hbp' : bp < wq.heap.size := by omega
          obtain ⟨o, ho, ho0, ho4⟩ : ∃ o : Int, bits .and .i64 (wrap64 (p.tdiv 32)) 3 = o ∧ 0 ≤ o ∧ o < 4 := ⟨_, and3 _, by omega, by omega⟩
          obtain ⟨kd, hkd, hkd0, hkd1⟩ : ∃ kd : Int, bits .and .i64 p 1 = kd ∧ 0 ≤ kd ∧ kd ≤ 1 := ⟨_, and1 _, by omega, by omega⟩
          obtain ⟨s0, s1, s2⟩ := At.z3 hbx.at0
          have ls := hbx.lt
          have hbase : w2.heap.size < wq.heap.size := ls
          have h0 := HW.out
          obtain ⟨OB, hOB⟩ : ∃ OB : Obj, OB = .cells #[.int .i64 s.id, .slice A s.cols.length v, .int .i64 s.next] 24 := ⟨_, rfl⟩
          have HS0 : Hid (Sw w ((wq.alloc OB).alloc OB) (w2.heap.size + 1) w2.heap.size w2.heap.size wq.heap.size (wq.heap.size + 1) s A v (s, 0) A v (.slice As L cs) L) := by
            rw [hOB]
            exact ⟨(h0.names.alloc _).alloc _, (h0.box.alloc _).alloc _, (h0.sown.alloc _).alloc _, (h0.own.alloc _).alloc _, (Blk.new wq [.int .i64 s.id, .slice A s.cols.length v, .int .i64 s.next] 24).alloc _, Blk.new_at (by simp) [.int .i64 s.id, .slice A s.cols.length v, .int .i64 s.next] 24, (h0.sown.alloc _).alloc _, may_fine hmay, Step.of⟩
          clear h0
          go_upto_block 2 with (fail)
          obtain ⟨W0, hW0⟩ : ∃ W0, W0 = (wq.alloc (.cells #[.int .i64 s.id, .slice A s.cols.length v, .int .i64 s.next] 24)).alloc (.cells #[.int .i64 s.id, .slice A s.cols.length v, .int .i64 s.next] 24) := ⟨_, rfl⟩
          have S0 : Step wq W0 := by rw [hW0]; exact Step.of
          have HS : Hid (Sw w W0 (w2.heap.size + 1) w2.heap.size w2.heap.size wq.heap.size (wq.heap.size + 1) s A v (s, 0) A v (.slice As L cs) L) := by rw [hW0]; rw [hOB] at HS0; exact HS0.out
          have hz0 : wq.heap.size + 1 < W0.heap.size := by rw [hW0]; simp
          clear HS0 hOB
          rw [← hW0]
          clear hW0 s0 s1 s2 ls p0
          obtain ⟨s0, s1, s2⟩ := At.z3 HS.out.box.at0
          obtain ⟨t0, t1, t2⟩ := At.z3 HS.out.tbx.at0
          have ft := HS.out.tbx.free
          have hi0 := hin.fut (w' := W0)
          obtain ⟨_, _, hcp⟩ : True ∧ True ∧ At W0 bp (op + k) [.int .i64 p] := by
            obtain ⟨b', o', hA', _, hcp⟩ := hp.elem (w' := W0) inferInstance (k := k) (by simpa [intCells] using hlt)
            obtain ⟨rfl, rfl⟩ : bp = b' ∧ op = o' := by simpa using hA'
            exact ⟨trivial, trivial, by have := hcp k [.int .i64 p] (by simp [intCells, HPK.out]); simpa using this⟩
          have p0 := At.l1 hcp
          clear hcp hnm hbx hso hown
          have hbp0 : bp < W0.heap.size := by omega
          have hw20 : w2.heap.size < W0.heap.size := by omega
          go_cut [6, 12, 13, 14, 15, 16, 17, 18] from 60 to 142 (fun sv f _ _ _ _ _ _ wx => ∃ (r : Sch × Int) (A5 As5 : Option Addr) (v5 L5 cs5 : Nat), sv = .slice As5 L5 cs5 ∧ f = .int .i64 r.2 ∧ Sw w wx (w2.heap.size + 1) w2.heap.size w2.heap.size wq.heap.size (wq.heap.size + 1) s A v r A5 v5 (.slice As5 L5 cs5) L5 ∧ ((r.2 = 0 → mayB r.1 = true ∧ r.1.id = s.id + 1 ∧ (L5 : Int) = r.1.next) ∧ (r.2 ≠ 0 → (L5 : Int) = s.next)))
          case first =>
            have hoo : o = 0 ∨ o = 1 ∨ o = 2 ∨ o = 3 := by omega
            clear ho0 ho4
            rcases hoo with rfl | rfl | rfl | rfl
            · obtain ⟨r, hr⟩ : ∃ r, addR s x (1 + kd) = r := ⟨_, rfl⟩
              have hc := fun w' [Fut W0 w'] => padd s A v x (1 + kd) w' hi0 (by omega)
              have hfi := add_fine s x (1 + kd)
              rw [hr] at hc hfi
              have HFI := hide hfi
              have HG := hide (fun h => addR_got (t := r.1) (n := r.2) hr h)
              clear hr hfi
              unfold Sch.val at hc
              have HC := hide hc; clear hc
              have hka : IntKind.i64.wrap (1 + kd) = 1 + kd := by rw [IntKind.wrap_i64]; omega
              go_upto_region 19 with (fail)
              go_cut [13, 14] from 97 to 111 (fun tt ff wx => ∃ (b : Nat) (A5 : Option Addr) (v5 : Nat), tt = .pointer (some ⟨b, 0, none⟩) ∧ ff = .int .i64 r.2 ∧ TBox W0 wx b r.1 A5 v5 ∧ Own wx W0.heap.size 49 3 (.slice A5 r.1.cols.length v5) (r.1.cols.map Col.cells))
              case first =>
                go_region_law (first
                  | (go_simp; go_at_call 15; refine (HC.out _).mono ?_; intro e w5 hr5; obtain ⟨A5, v5, rfl, hi5, ho5, hs5⟩ := hr5; obtain ⟨c5, f5⟩ := hs5.reads; (try simp only [hszd] at c5 f5); (try simp only [hsz] at c5 f5); (try simp only [hszd] at c5 f5); have z6 := hs5.size; (try simp only [hszd] at z6); (try simp only [hsz] at z6); (try simp only [hszd] at z6); (try have lt6 : W0.heap.size < w5.heap.size := by omega)))
                all_goals
                  go_wp2_with fail
                  go_meet
                  case rel =>
                    have hab := ho5.abv
                    have hsz5 : W0.heap.size ≤ w5.heap.size := (fut W0 w5).size
                    have hmo := ho5.more (base' := W0.heap.size) (by (try simp only [hszd]); (try simp only [hsz]); (try simp only [hszd]); omega)
                    first
                      | exact ⟨_, _, _, rfl, rfl, TBox.a hi5 (hab.mono (by (try simp only [hszd]); (try simp only [hsz]); (try simp only [hszd]); omega)) (fut W0 w5), hmo.alloc _⟩
                      | exact ⟨_, _, _, rfl, rfl, TBox.b ((Blk.new W0 [.int .i64 0, .slice none 0 0, .int .i64 0] 24).fut (w' := w5)) hi5 hab (by (try simp only [hszd]); (try simp only [hsz]); (try simp only [hszd]); omega) (Nat.le_refl _) (fut W0 w5), hmo.store3 ((Blk.new W0 [.int .i64 0, .slice none 0 0, .int .i64 0] 24).fut (w' := w5)) (by show (49 : Nat) ≠ 24; decide) _ _ _⟩
                      | exact ⟨_, _, _, rfl, rfl, TBox.b ((Blk.new W0.drew [.int .i64 0, .slice none 0 0, .int .i64 0] 24).fut (w' := w5)) hi5 hab (by (try simp only [hszd]); (try simp only [hsz]); (try simp only [hszd]); omega) (Nat.le_refl _) (fut W0 w5), hmo.store3 ((Blk.new W0.drew [.int .i64 0, .slice none 0 0, .int .i64 0] 24).fut (w' := w5)) (by show (49 : Nat) ≠ 24; decide) _ _ _⟩
              case rest =>
                obtain ⟨b, A5, v5, rfl, rfl, htb, hro⟩ := hcut
                obtain ⟨hb, hi5, hwb, hab, hst5⟩ := htb
                obtain ⟨w5, rfl⟩ : ∃ x : World, x = wc := ⟨_, rfl⟩
                have HS5 := hide (HS.out.fut (w6 := w5))
                have HO5 := hide (hro.more (base' := w.heap.size) (by have := (fut w W0).size; omega))
                clear s0 s1 s2 t0 t1 t2 ft p0 hka
                obtain ⟨s0, s1, s2⟩ := At.z3 hb.at0
                obtain ⟨t0, t1, t2⟩ := At.z3 HS5.out.tbx.at0
                have ft := HS5.out.tbx.free
                have lt5 := HS5.out.tbx.lt
                go_upto_region 20 with (fail)
                go_cut [12] from 112 to 114 (fun f wx => f = .int .i64 r.2 ∧ Sw w wx (w2.heap.size + 1) w2.heap.size w2.heap.size wq.heap.size (wq.heap.size + 1) s A v r A5 v5 (.slice As L cs) L)
                case first =>
                  go_region_law (first | (go_simp; go_at_call 22; refine (num_any _ _).mono ?_; rintro e w9 ⟨rfl, rfl⟩))
                  all_goals
                    go_wp2_with fail
                    go_meet
                    case rel =>
                      refine ⟨rfl, ?_⟩
                      have q := Sw.put (r := r) HS5.out (by omega) (by omega) (by omega) (by omega) HO5.out HFI.out
                      first | exact q | exact q.drew
                case rest =>
                  obtain ⟨rfl, hsw⟩ := hcut
                  clear s0 s1 s2 t0 t1 t2 ft lt5 hb hi5 hro
                  have HSW := hide hsw
                  by_cases hr0 : r.2 = 0
                  · obtain ⟨g1, g2, g3, g4⟩ := HG.out hr0
                    have hnx := (mayB_head g1)
                    obtain ⟨_, _, _, _, _, hnx6⟩ := hnx
                    have hw5 : w2.heap.size < wc.heap.size := hsw.box.lt
                    have HL0 : Hid (L ≠ 0) := by obtain ⟨_, _, _, _, q5, _⟩ := mayB_head hmay; show L ≠ 0; omega
                    have hLm : (L : Int) + 1 ≤ 2147483647 := by omega
                    have HR : Hid ((r.2 = 0 → mayB r.1 = true ∧ r.1.id = s.id + 1 ∧ ((L + 1 : Nat) : Int) = r.1.next) ∧ (r.2 ≠ 0 → ((L + 1 : Nat) : Int) = s.next)) :=
                      ⟨fun _ => ⟨g1, g2, by rw [g3]; push_cast; omega⟩, fun h => absurd hr0 h⟩
                    have hrb : (r.2 == 0) = true := by simpa using hr0
                    have hlr : r.1.cols.length = s.cols.length + 1 := by rw [g4]; simp
                    have hlast : r.1.cols[r.1.cols.length - 1]? = some ⟨s.next, x, 1 + kd⟩ := by rw [hlr, g4]; simp
                    have hir := SchIn.of_own hsw.rown hsw.fine
                    have hfl := hsw.fine.1
                    obtain ⟨b7, o7, rfl, hb7, hc7⟩ := hir.at_.elem (Fut.self _) (k := r.1.cols.length - 1) (by simp; omega)
                    obtain ⟨y0, y1, y2⟩ := At.l3 (hc7 (r.1.cols.length - 1) [.int .i64 s.next, .string x, .int .i64 (1 + kd)] (by rw [List.getElem?_map, hlast]; rfl))
                    have hl1 : (1 : Int) ≤ (r.1.cols.length : Int) := by omega
                    have hl2 : (r.1.cols.length : Int) ≤ 12 := by omega
                    have hsn : (s.next == (L : Int)) = true := by simp; omega
                    have HOw := hide (hsw.own.alloc (.cells #[.bool true] 4))
                    have HY := hide (SlAt.one wc 1 [.bool true] 4)
                    obtain ⟨t0, t1, t2⟩ := At.z3 hsw.tbx.at0
                    clear g1 g2 g3 g4 hlr hlast hc7 hir hr0 hsw hnx6
                    go_wp2_with (at_builtin; go_loud (refine wpList_append_sl rfl (.tmp 129) (.tmp 130) 46 rfl eiBool (base := w2.heap.size) (xs := boolCells L) rfl HOw.out (bool_fit _) (ys := [[.bool true]]) rfl (by simp) HY.out (by intro z hz; simp at hz; rw [hz]; exact ⟨rfl, by intro u hu; simp at hu; rw [hu]; rfl⟩) (by simp [boolCells]; omega) (by simp; omega) (N := L + 1) (by simp [boolCells]) ?_; intro A8 c8 w8 hq1 hq2 hown8 hgr8 hbel8; have H8 := hide hown8; have HG8 := hide hgr8; clear hown8 hgr8 hbel8))
                    go_meet
                    case rel =>
                      have hL0 : L ≠ 0 := HL0.out
                      exact ⟨r, _, A8, v5, L + 1, c8, rfl, rfl, (HSW.out.al _).grow HG8.out (by rw [boolCells_succ L hL0]; exact H8.out) (by omega) (by simp; omega), HR.out⟩
                  · have hrb : (r.2 == 0) = false := by simpa using hr0
                    have HR : Hid ((r.2 = 0 → mayB r.1 = true ∧ r.1.id = s.id + 1 ∧ (L : Int) = r.1.next) ∧ (r.2 ≠ 0 → (L : Int) = s.next)) := ⟨fun h => absurd h hr0, fun _ => hlen'⟩
                    clear hr0
                    go_wp2_with fail
                    go_meet
                    case rel => exact ⟨r, A5, As, v5, L, cs, rfl, rfl, by first | exact HSW.out | exact HSW.out.fut, HR.out⟩
            · obtain ⟨r, hr⟩ : ∃ r, addR s x (1 + kd) = r := ⟨_, rfl⟩
              have hc := fun w' [Fut W0 w'] => padd s A v x (1 + kd) w' hi0 (by omega)
              have hfi := add_fine s x (1 + kd)
              rw [hr] at hc hfi
              have HFI := hide hfi
              have HG := hide (fun h => addR_got (t := r.1) (n := r.2) hr h)
              clear hr hfi
              unfold Sch.val at hc
              have HC := hide hc; clear hc
              have hka : IntKind.i64.wrap (1 + kd) = 1 + kd := by rw [IntKind.wrap_i64]; omega
              go_upto_region 19 with (fail)
              go_cut [13, 14] from 97 to 111 (fun tt ff wx => ∃ (b : Nat) (A5 : Option Addr) (v5 : Nat), tt = .pointer (some ⟨b, 0, none⟩) ∧ ff = .int .i64 r.2 ∧ TBox W0 wx b r.1 A5 v5 ∧ Own wx W0.heap.size 49 3 (.slice A5 r.1.cols.length v5) (r.1.cols.map Col.cells))
              case first =>
                go_region_law (first
                  | (go_simp; go_at_call 15; refine (HC.out _).mono ?_; intro e w5 hr5; obtain ⟨A5, v5, rfl, hi5, ho5, hs5⟩ := hr5; obtain ⟨c5, f5⟩ := hs5.reads; (try simp only [hszd] at c5 f5); (try simp only [hsz] at c5 f5); (try simp only [hszd] at c5 f5); have z6 := hs5.size; (try simp only [hszd] at z6); (try simp only [hsz] at z6); (try simp only [hszd] at z6); (try have lt6 : W0.heap.size < w5.heap.size := by omega)))
                all_goals
                  go_wp2_with fail
                  go_meet
                  case rel =>
                    have hab := ho5.abv
                    have hsz5 : W0.heap.size ≤ w5.heap.size := (fut W0 w5).size
                    have hmo := ho5.more (base' := W0.heap.size) (by (try simp only [hszd]); (try simp only [hsz]); (try simp only [hszd]); omega)
                    first
                      | exact ⟨_, _, _, rfl, rfl, TBox.a hi5 (hab.mono (by (try simp only [hszd]); (try simp only [hsz]); (try simp only [hszd]); omega)) (fut W0 w5), hmo.alloc _⟩
                      | exact ⟨_, _, _, rfl, rfl, TBox.b ((Blk.new W0 [.int .i64 0, .slice none 0 0, .int .i64 0] 24).fut (w' := w5)) hi5 hab (by (try simp only [hszd]); (try simp only [hsz]); (try simp only [hszd]); omega) (Nat.le_refl _) (fut W0 w5), hmo.store3 ((Blk.new W0 [.int .i64 0, .slice none 0 0, .int .i64 0] 24).fut (w' := w5)) (by show (49 : Nat) ≠ 24; decide) _ _ _⟩
                      | exact ⟨_, _, _, rfl, rfl, TBox.b ((Blk.new W0.drew [.int .i64 0, .slice none 0 0, .int .i64 0] 24).fut (w' := w5)) hi5 hab (by (try simp only [hszd]); (try simp only [hsz]); (try simp only [hszd]); omega) (Nat.le_refl _) (fut W0 w5), hmo.store3 ((Blk.new W0.drew [.int .i64 0, .slice none 0 0, .int .i64 0] 24).fut (w' := w5)) (by show (49 : Nat) ≠ 24; decide) _ _ _⟩
              case rest =>
                obtain ⟨b, A5, v5, rfl, rfl, htb, hro⟩ := hcut
                obtain ⟨hb, hi5, hwb, hab, hst5⟩ := htb
                obtain ⟨w5, rfl⟩ : ∃ x : World, x = wc := ⟨_, rfl⟩
                have HS5 := hide (HS.out.fut (w6 := w5))
                have HO5 := hide (hro.more (base' := w.heap.size) (by have := (fut w W0).size; omega))
                clear s0 s1 s2 t0 t1 t2 ft p0 hka
                obtain ⟨s0, s1, s2⟩ := At.z3 hb.at0
                obtain ⟨t0, t1, t2⟩ := At.z3 HS5.out.tbx.at0
                have ft := HS5.out.tbx.free
                have lt5 := HS5.out.tbx.lt
                go_upto_region 20 with (fail)
                go_cut [12] from 112 to 114 (fun f wx => f = .int .i64 r.2 ∧ Sw w wx (w2.heap.size + 1) w2.heap.size w2.heap.size wq.heap.size (wq.heap.size + 1) s A v r A5 v5 (.slice As L cs) L)
                case first =>
                  go_region_law (first | (go_simp; go_at_call 22; refine (num_any _ _).mono ?_; rintro e w9 ⟨rfl, rfl⟩))
                  all_goals
                    go_wp2_with fail
                    go_meet
                    case rel =>
                      refine ⟨rfl, ?_⟩
                      have q := Sw.put (r := r) HS5.out (by omega) (by omega) (by omega) (by omega) HO5.out HFI.out
                      first | exact q | exact q.drew
                case rest =>
                  obtain ⟨rfl, hsw⟩ := hcut
                  clear s0 s1 s2 t0 t1 t2 ft lt5 hb hi5 hro
                  have HSW := hide hsw
                  by_cases hr0 : r.2 = 0
                  · obtain ⟨g1, g2, g3, g4⟩ := HG.out hr0
                    have hnx := (mayB_head g1)
                    obtain ⟨_, _, _, _, _, hnx6⟩ := hnx
                    have hw5 : w2.heap.size < wc.heap.size := hsw.box.lt
                    have HL0 : Hid (L ≠ 0) := by obtain ⟨_, _, _, _, q5, _⟩ := mayB_head hmay; show L ≠ 0; omega
                    have hLm : (L : Int) + 1 ≤ 2147483647 := by omega
                    have HR : Hid ((r.2 = 0 → mayB r.1 = true ∧ r.1.id = s.id + 1 ∧ ((L + 1 : Nat) : Int) = r.1.next) ∧ (r.2 ≠ 0 → ((L + 1 : Nat) : Int) = s.next)) :=
                      ⟨fun _ => ⟨g1, g2, by rw [g3]; push_cast; omega⟩, fun h => absurd hr0 h⟩
                    have hrb : (r.2 == 0) = true := by simpa using hr0
                    have hlr : r.1.cols.length = s.cols.length + 1 := by rw [g4]; simp
                    have hlast : r.1.cols[r.1.cols.length - 1]? = some ⟨s.next, x, 1 + kd⟩ := by rw [hlr, g4]; simp
                    have hir := SchIn.of_own hsw.rown hsw.fine
                    have hfl := hsw.fine.1
                    obtain ⟨b7, o7, rfl, hb7, hc7⟩ := hir.at_.elem (Fut.self _) (k := r.1.cols.length - 1) (by simp; omega)
                    obtain ⟨y0, y1, y2⟩ := At.l3 (hc7 (r.1.cols.length - 1) [.int .i64 s.next, .string x, .int .i64 (1 + kd)] (by rw [List.getElem?_map, hlast]; rfl))
                    have hl1 : (1 : Int) ≤ (r.1.cols.length : Int) := by omega
                    have hl2 : (r.1.cols.length : Int) ≤ 12 := by omega
                    have hsn : (s.next == (L : Int)) = true := by simp; omega
                    have HOw := hide (hsw.own.alloc (.cells #[.bool true] 4))
                    have HY := hide (SlAt.one wc 1 [.bool true] 4)
                    obtain ⟨t0, t1, t2⟩ := At.z3 hsw.tbx.at0
                    clear g1 g2 g3 g4 hlr hlast hc7 hir hr0 hsw hnx6
                    go_wp2_with (at_builtin; go_loud (refine wpList_append_sl rfl (.tmp 129) (.tmp 130) 46 rfl eiBool (base := w2.heap.size) (xs := boolCells L) rfl HOw.out (bool_fit _) (ys := [[.bool true]]) rfl (by simp) HY.out (by intro z hz; simp at hz; rw [hz]; exact ⟨rfl, by intro u hu; simp at hu; rw [hu]; rfl⟩) (by simp [boolCells]; omega) (by simp; omega) (N := L + 1) (by simp [boolCells]) ?_; intro A8 c8 w8 hq1 hq2 hown8 hgr8 hbel8; have H8 := hide hown8; have HG8 := hide hgr8; clear hown8 hgr8 hbel8))
                    go_meet
                    case rel =>
                      have hL0 : L ≠ 0 := HL0.out
                      exact ⟨r, _, A8, v5, L + 1, c8, rfl, rfl, (HSW.out.al _).grow HG8.out (by rw [boolCells_succ L hL0]; exact H8.out) (by omega) (by simp; omega), HR.out⟩
                  · have hrb : (r.2 == 0) = false := by simpa using hr0
                    have HR : Hid ((r.2 = 0 → mayB r.1 = true ∧ r.1.id = s.id + 1 ∧ (L : Int) = r.1.next) ∧ (r.2 ≠ 0 → (L : Int) = s.next)) := ⟨fun h => absurd h hr0, fun _ => hlen'⟩
                    clear hr0
                    go_wp2_with fail
                    go_meet
                    case rel => exact ⟨r, A5, As, v5, L, cs, rfl, rfl, by first | exact HSW.out | exact HSW.out.fut, HR.out⟩
            · obtain ⟨r, hr⟩ : ∃ r, dropR s x = r := ⟨_, rfl⟩
              have hc := fun w' [Fut W0 w'] => pdrop s A v x w' hi0
              have hfi := drop_fine s x
              rw [hr] at hc hfi
              have HFI := hide hfi
              have HR : Hid ((r.2 = 0 → mayB r.1 = true ∧ r.1.id = s.id + 1 ∧ (L : Int) = r.1.next) ∧ (r.2 ≠ 0 → (L : Int) = s.next)) :=
                ⟨fun h => by obtain ⟨a, b, c⟩ := dropR_got (t := r.1) (n := r.2) hr h; exact ⟨a, b, by rw [c]; exact hlen'⟩, fun _ => hlen'⟩
              clear hr hfi
              unfold Sch.val at hc
              have HC := hide hc; clear hc
              go_wp2_with fail
              refine (HC.out _).mono ?_
              intro e w5 h5
              obtain ⟨A5, v5, rfl, hi5, ho5, hs5⟩ := h5
              have HS5 := hide (HS.out.fut (w6 := w5))
              have HO5 := hide (ho5.more (base' := w.heap.size) (by omega))
              clear s0 s1 s2 t0 t1 t2 ft p0 ho5
              obtain ⟨t0, t1, t2⟩ := At.z3 HS5.out.tbx.at0
              have ft := HS5.out.tbx.free
              have lt5 := HS5.out.tbx.lt
              go_wp2_with fail
              go_region_law (first | (go_simp; go_at_call 22; refine (num_any _ _).mono ?_; rintro e w9 ⟨rfl, rfl⟩))
              all_goals
                go_wp2_with fail
                go_meet
                case rel =>
                  refine ⟨r, A5, As, v5, L, cs, rfl, rfl, ?_, HR.out⟩
                  have q := Sw.put (r := r) HS5.out (by omega) (by omega) (by omega) (by omega) HO5.out HFI.out
                  first | exact q | exact q.al _ | exact (q.al _).drew | exact q.drew.al _
            · obtain ⟨r, hr⟩ : ∃ r, renameR s x y = r := ⟨_, rfl⟩
              have hc := fun w' [Fut W0 w'] => prename s A v x y w' hi0 (by omega)
              have hfi := rename_fine s x y
              rw [hr] at hc hfi
              have HFI := hide hfi
              have HG := hide (fun h => renameR_got (t := r.1) (n := r.2) hr h)
              have HR : Hid ((r.2 = 0 → mayB r.1 = true ∧ r.1.id = s.id + 1 ∧ (L : Int) = r.1.next) ∧ (r.2 ≠ 0 → (L : Int) = s.next)) :=
                ⟨fun h => by obtain ⟨a, b, c, _⟩ := HG.out h; exact ⟨a, b, by rw [c]; exact hlen'⟩, fun _ => hlen'⟩
              clear hr hfi
              unfold Sch.val at hc
              have HC := hide hc; clear hc
              go_wp2_with fail
              refine (HC.out _).mono ?_
              intro e w5 h5
              obtain ⟨A5, v5, rfl, hi5, ho5, hs5⟩ := h5
              have HS5 := hide (HS.out.fut (w6 := w5))
              have HO5 := hide (ho5.more (base' := w.heap.size) (by omega))
              clear s0 s1 s2 t0 t1 t2 ft p0 ho5
              obtain ⟨t0, t1, t2⟩ := At.z3 HS5.out.tbx.at0
              have ft := HS5.out.tbx.free
              have lt5 := HS5.out.tbx.lt
              go_upto_region 14 with (fail)
              go_cut [12] from 73 to 75 (fun f wx => f = .int .i64 r.2 ∧ Sw w wx (w2.heap.size + 1) w2.heap.size w2.heap.size wq.heap.size (wq.heap.size + 1) s A v r A5 v5 (.slice As L cs) L)
              case first =>
                go_region_law (first | (go_simp; go_at_call 22; refine (num_any _ _).mono ?_; rintro e w9 ⟨rfl, rfl⟩))
                all_goals
                  go_wp2_with fail
                  go_meet
                  case rel =>
                    refine ⟨rfl, ?_⟩
                    have q := Sw.put (r := r) HS5.out (by omega) (by omega) (by omega) (by omega) HO5.out HFI.out
                    first | exact q | exact q.al _ | exact (q.al _).drew | exact q.drew.al _
              case rest =>
                obtain ⟨rfl, hsw⟩ := hcut
                clear t0 t1 t2 ft lt5
                have HSW := hide hsw
                obtain ⟨t0, t1, t2⟩ := At.z3 hsw.tbx.at0
                obtain ⟨o0, o1, o2⟩ := At.z3 hsw.obx.at0
                have lt5 := hsw.tbx.lt
                have lo5 := hsw.obx.lt
                by_cases hr0 : r.2 = 0
                · obtain ⟨g1, g2, g3, j, c, d, e1, e2, e3, e4, e5⟩ := HG.out hr0
                  clear g1 g2 g3
                  have hrb : (r.2 == 0) = true := by simpa using hr0
                  have HR1 := hide hr0
                  have hjs : j < s.cols.length := (List.getElem?_eq_some_iff.1 e3).1
                  have hjr : j < r.1.cols.length := (List.getElem?_eq_some_iff.1 e4).1
                  have hir := SchIn.of_own hsw.rown hsw.fine
                  have his := SchIn.of_own hsw.sown (may_fine hmay)
                  obtain ⟨br, or_, rfl, hbr, hcr⟩ := hir.at_.elem (Fut.self _) (k := j) (by simpa using hjr)
                  obtain ⟨bq, oq, rfl, hbq, hcq⟩ := his.at_.elem (Fut.self _) (k := j) (by simpa using hjs)
                  obtain ⟨y0, y1, y2⟩ := At.l3 (hcr j d.cells (by simp [e4]))
                  obtain ⟨z0, z1', z2'⟩ := At.l3 (hcq j c.cells (by simp [e3]))
                  have hid : (d.id == c.id) = true := by simpa using e5
                  have k1 := fun w' (S : Step wc w') => pfind r.1 (some ⟨br, or_, none⟩) v5 y w' hir
                  have k2 := fun w' (S : Step wc w') => pfind s (some ⟨bq, oq, none⟩) v x w' his
                  rw [e2] at k1; rw [e1] at k2
                  unfold Sch.val at k1 k2
                  have K1 := hide k1; have K2 := hide k2
                  have hj0 : (0 : Int) ≤ (j : Int) := by omega
                  have hj1 : (j : Int) < (r.1.cols.length : Int) := by omega
                  have hj2 : (j : Int) < (s.cols.length : Int) := by omega
                  clear e1 e2 e3 e4 e5 hcr hcq hr0
                  go_upto_region 15 with (fail)
                  go_region_held3 (fun w' => Step wc w' ∧ (∀ b o, b < wc.heap.size → w'.cell? ⟨b, o, none⟩ = wc.cell? ⟨b, o, none⟩))
                    (first | exact Step.held (fut _ _))
                    (first
                      | (go_at_call 29; go_split_ands; first | ((with_reducible refine (K1.out _ (by assumption)).mono ?_); rintro e w' ⟨rfl, hq⟩) | ((with_reducible refine (K2.out _ (by assumption)).mono ?_); rintro e w' ⟨rfl, hq⟩)))
                  all_goals
                    go_wp2_with fail
                    go_meet
                    case rel =>
                      refine ⟨r, some ⟨br, or_, none⟩, As, v5, L, cs, rfl, by first | rfl | (rw [HR1.out]), ?_, HR.out⟩
                      go_split_ands
                      exact HSW.out.fut
                · have hrb : (r.2 == 0) = false := by simpa using hr0
                  have HR0 := hide hr0; clear hr0
                  go_wp2_with fail
                  go_quiet (fail)
                  go_wp2_with fail
                  go_meet
                  case rel => exact ⟨r, A5, As, v5, L, cs, rfl, rfl, by first | exact HSW.out | exact HSW.out.fut, HR.out⟩
          case rest =>
            obtain ⟨r, A5, As5, v5, L5, cs5, rfl, rfl, hsw, hr1, hr2⟩ := hcut
            have HSW := hide hsw; have HR1 := hide hr1; have HR2 := hide hr2
            clear hr1 hr2 s0 s1 s2 t0 t1 t2 ft p0
            obtain ⟨t0, t1, t2⟩ := At.z3 hsw.tbx.at0
            obtain ⟨o0, o1, o2⟩ := At.z3 hsw.obx.at0
            have lt5 := hsw.tbx.lt; have lo5 := hsw.obx.lt; have lb5 := hsw.box.lt
            have hir := SchIn.of_own hsw.rown hsw.fine
            obtain ⟨hi1, hi2, _⟩ := mayB_head hmay
            have HMAY := hide hmay
            clear hsw hmay
            by_cases hr0 : r.2 = 0
            · obtain ⟨g1, g2, g3⟩ := HR1.out hr0
              have hrn : (r.2 != 0) = false := by simpa using hr0
              have hid : (r.1.id != s.id + 1) = false := by simp [g2]
              have HG1 := hide g1; have HG3 := hide g3
              have hc := fun w' [Fut wc w'] => pmay r.1 A5 v5 w' hir
              rw [g1] at hc; unfold Sch.val at hc
              have HC := hide hc
              clear hc g1 g2 g3 hr0 hir
              go_wp2_with fail
              refine (HC.out _).mono ?_
              rintro e w6 ⟨rfl, hs6⟩
              clear t0 t1 t2 o0 o1 o2 lt5 lo5 lb5
              have hsw := HSW.out.fut (w6 := w6)
              obtain ⟨t0, t1, t2⟩ := At.z3 hsw.tbx.at0
              obtain ⟨o0, o1, o2⟩ := At.z3 hsw.obx.at0
              obtain ⟨s0, s1, s2⟩ := At.z3 hsw.box.at0
              have fs := hsw.box.free
              have lt5 := hsw.tbx.lt; have lo5 := hsw.obx.lt; have lb5 := hsw.box.lt
              have HS6 := hide hsw; clear hsw
              go_wp2_with fail
              go_roundw
              case rel => exact ⟨k + 1, r.1, A5, As5, v5, L5, cs5, by omega, by omega, by go_num, rfl, HS6.out.next HG1.out (by omega) (by have := hs2.size; omega) HG3.out⟩
              case measure => simp [intOf]; omega
            · have hrn : (r.2 != 0) = true := by simpa using hr0
              have HL := hide (HR2.out hr0)
              clear hr0 hir
              go_wp2_with fail
              go_roundw
              case rel => exact ⟨k + 1, s, A, As5, v, L5, cs5, by omega, by omega, by go_num, rfl, HSW.out.rel HMAY.out HL.out⟩
              case measure => simp [intOf]; omega
      · obtain rfl : k = 60 := by omega
        clear hmay hnm hbx hso hown hlen
        go_wp2_with fail
        refine (num_any _ _).mono ?_
        rintro e w9 ⟨rfl, rfl⟩
        go_wp2_with fail
        go_ret
        exact ⟨rfl, hst⟩
    · clear hmay hnm hbx hso hown hlen
      go_wp2_with fail
      refine (num_any _ _).mono ?_
      rintro e w9 ⟨rfl, rfl⟩
      go_wp2_with fail
      go_ret
      exact ⟨rfl, hst⟩
end Go.Proofs.YtfojdjmeefglcaaDoor
