/-
  Texts put together: Xv.
-/
import Derived.Test.YtnphokhehacfnaaGreatDoorRz90
import Derived.Test.YtnphokhehacfnaaGreatDoorRz91
namespace Go.Proofs.YtnphokhehacfnaaGreatDoor
open Go.RowKit

section
variable {P : Program} {ops : Array Oper} {Q : Exit → Act → World → Prop} {md : Region.Mode}
/-- Every edge goes back. -/
def backB (ops : Array Oper) : Bool := (List.range ops.size).all fun i => match ops[i]? with | some o => o.after.all fun e => decide (e.on < i) | none => true
theorem back_of (h : backB ops = true) {i : Nat} {o : Oper} (ho : ops[i]? = some o) {e : Edge} (he : e ∈ o.after) : e.on < i := by
  have hi := (Array.getElem?_eq_some_iff.1 ho).1
  have h1 := List.all_eq_true.1 h i (List.mem_range.2 hi)
  rw [ho] at h1
  exact of_decide_eq_true (Array.all_eq_true_iff_forall_mem.1 h1 e he)
/-- Does operation i wait for d? -/
def waitsB (md : Region.Mode) (ops : Array Oper) (i d : Nat) : Bool := match ops[i]? with | some o => o.after.any fun e => Region.binds md e && e.on == d | none => false
theorem listed_all (hb : backB ops = true) {listed : Array Bool} (hs : listed.size = ops.size) (hr : Region.ready md ops listed = []) : ∀ i, i < ops.size → listed.getD i false = true := by
  intro i
  induction i using Nat.strongRecOn with
  | ind i ih =>
    intro hi
    cases h : listed.getD i false with
    | true => rfl
    | false =>
      exfalso
      have h2 : listed.getD i true = false := by
        have hi2 : i < listed.size := by omega
        simp [hi2] at h ⊢
        exact h
      have : i ∈ Region.ready md ops listed := mem_ready.2 ⟨h2, ops[i], Array.getElem?_eq_getElem hi, fun e he _ => ih e.on (back_of hb (Array.getElem?_eq_getElem hi) he) (by have := back_of hb (Array.getElem?_eq_getElem hi) he; omega)⟩
      rw [hr] at this
      cases this
/-- What holds of what has been done so far holds at the end, in whatever order. -/
theorem wpAny_inv (Inv : Array Bool → Act → World → Prop) (hb : backB ops = true)
    (hstep : ∀ i listed a w, i < ops.size → listed.size = ops.size → listed.getD i true = false → (∀ d, waitsB md ops i d = true → listed.getD d false = true) → Inv listed a w → wpOp P ops Q i (fun a' w' => Inv (listed.setIfInBounds i true) a' w') a w)
    (hend : ∀ listed a w, (∀ i, i < ops.size → listed.getD i false = true) → Inv listed a w → Q .normal a w) :
    ∀ (fuel : Nat) (l : List Nat) (listed : Array Bool) (a : Act) (w : World), listed.size = ops.size → l.length = fuel → l.Nodup → (∀ i, listed.getD i true = false → i ∈ l) → Inv listed a w → wpAny P md ops Q fuel listed a w
  | 0, l, listed, a, w, hs, hl, _, hm, hi => by
    have hr : Region.ready md ops listed = [] := by
      rw [List.eq_nil_iff_forall_not_mem]
      intro i h
      have := hm i (mem_ready.1 h).1
      rw [List.length_eq_zero_iff.1 hl] at this
      cases this
    exact ⟨hr, hend listed a w (listed_all hb hs hr) hi⟩
  | fuel + 1, l, listed, a, w, hs, hl, hn, hm, hi => by
    refine ⟨fun hr => hend listed a w (listed_all hb hs hr) hi, fun i h => ?_⟩
    obtain ⟨h1, o, ho, h2⟩ := mem_ready.1 h
    have hib := (Array.getElem?_eq_some_iff.1 ho).1
    refine wpOp_mono (fun a' w' h3 => ?_) (hstep i listed a w hib hs h1 (fun d hd => by
      unfold waitsB at hd
      rw [ho] at hd
      obtain ⟨e, he, hbe⟩ := Array.any_eq_true'.1 hd
      rw [Bool.and_eq_true, beq_iff_eq] at hbe
      rw [← hbe.2]
      exact h2 e he hbe.1) hi)
    have hil := hm i h1
    refine wpAny_inv Inv hb hstep hend fuel (l.erase i) _ a' w' (by rw [Array.size_setIfInBounds]; exact hs) (by rw [List.length_erase_of_mem hil]; omega) (hn.erase i) (fun j hj => ?_) h3
    by_cases hij : i = j
    · subst hij
      have hi2 : i < listed.size := by omega
      simp [hi2] at hj
    · rw [getD_set_ne true hij] at hj
      exact (List.mem_erase_of_ne (fun e => hij e.symm)).2 (hm j hj)
/-- The slots of a region's operations, filled. -/
def putAll (a : Act) : List Nat → List Value → Act
  | d :: ds, v :: vs => putAll (a.put (some d) v) ds vs
  | _, _ => a
structure InvG (G : Nat → Value → World → Prop) (X : World) (ds : List Nat) (a0 : Act) (n : Nat) (listed : Array Bool) (a : Act) (w : World) : Prop where
  below : Below X.heap.size X w
  vals : ∃ vs : List Value, vs.length = n ∧ a = putAll a0 ds vs ∧ ∀ i, i < n → listed.getD i false = true → G i (vs.getD i undef) w
/-- A region in any order: G i is what the value of operation i is to be; it stays in later worlds. -/
theorem wp_region_G {id : Nat} {a : Act} {w : World} (hm : P.follows .mixedOrders = true) (hb : backB ops = true) (G : Nat → Value → World → Prop) (ds : List Nat) (us : List Value) (hus : us.length = ops.size) (ha : a = putAll a ds us)
    (hG : ∀ i v w w', G i v w → Below w.heap.size w w' → G i v w')
    (hstep : ∀ i (vs : List Value) (w' : World), i < ops.size → vs.length = ops.size → Below w.heap.size w w' → (∀ d, waitsB .any ops i d = true → G d (vs.getD d undef) w') → wpOp P ops Q i (fun a' w'' => ∃ v, a' = putAll a ds (vs.set i v) ∧ Below w'.heap.size w' w'' ∧ G i v w'') (putAll a ds vs) w')
    (hend : ∀ (vs : List Value) (w' : World), vs.length = ops.size → Below w.heap.size w w' → (∀ i, i < ops.size → G i (vs.getD i undef) w') → Q .normal (putAll a ds vs) w') : (Code.region id ops true).wp P Q a w := by
  refine wp_region_any hm (wpAny_inv (InvG G w ds a ops.size) hb (fun i listed a' w' hi hs hu hd hI => ?_) (fun listed a' w' hl hI => ?_) ops.size (List.range ops.size) _ _ _ (by simp) (by simp) List.nodup_range (fun i hi => ?_) ⟨⟨rfl, rfl, rfl, Nat.le_refl _, fun _ _ => rfl⟩, us, hus, ha, fun i hi h => ?_⟩)
  · obtain ⟨vs, hv, rfl, hg⟩ := hI.vals
    have hbd : ∀ d, waitsB .any ops i d = true → d < ops.size := fun d h => by
      unfold waitsB at h
      cases ho : ops[i]? with
      | none => rw [ho] at h; cases h
      | some o =>
        rw [ho] at h
        obtain ⟨e, he, hbe⟩ := Array.any_eq_true'.1 h
        rw [Bool.and_eq_true, beq_iff_eq] at hbe
        have := back_of hb ho he
        omega
    refine wpOp_mono (fun a'' w'' h => ?_) (hstep i vs w' hi hv hI.below fun d h => hg d (hbd d h) (hd d h))
    obtain ⟨v, rfl, hbw, hgv⟩ := h
    refine ⟨hI.below.trans (hbw.mono hI.below.size), vs.set i v, by rw [List.length_set]; exact hv, rfl, fun j hj hl => ?_⟩
    by_cases hij : i = j
    · subst hij
      rw [List.getD_eq_getElem?_getD, List.getElem?_set_self (by omega)]
      exact hgv
    · rw [getD_set_ne false hij] at hl
      rw [List.getD_eq_getElem?_getD, List.getElem?_set_ne hij, ← List.getD_eq_getElem?_getD]
      exact hG j _ _ _ (hg j hj hl) hbw
  · obtain ⟨vs, hv, rfl, hg⟩ := hI.vals
    exact hend vs w' hv hI.below fun i hi => hg i hi (hl i hi)
  · rw [List.mem_range]
    rcases Nat.lt_or_ge i ops.size with h | h
    · exact h
    · simp [h] at hi
  · simp [hi] at h
end
end Go.Proofs.YtnphokhehacfnaaGreatDoor

