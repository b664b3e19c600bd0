/- A region whose order of evaluation is left open, by a relation that every operation keeps. -/
import Derived.Test.YtkpielgdfahanaaGreatEff
import Derived.RegionTactic
namespace Go.Proofs.YtkpielgdfahanaaGreat
open Go.RowKit Go.Maps

section
variable {P : Program} {ops : Array Oper} {md : Region.Mode} {Q : Exit → Act → World → Prop}
/-- How many operations are still to come. -/
def undone (n : Nat) (d : Nat → Bool) : Nat := (List.range n).countP fun j => !d j
theorem undone_lt {n i : Nat} {d : Nat → Bool} (hi : i < n) (hd : d i = false) : undone n (fun j => j == i || d j) < undone n d := by
  unfold undone
  induction n with
  | zero => omega
  | succ n ih =>
    rw [List.range_succ, List.countP_append, List.countP_append]
    have hle : ∀ m, (List.range m).countP (fun j => !(j == i || d j)) ≤ (List.range m).countP fun j => !d j := fun m =>
      List.countP_mono_left fun x _ h => by simp at h ⊢; exact h.2
    rcases Nat.lt_or_ge i n with h | h
    · have h1 := ih h
      have h2 : [n].countP (fun j => !(j == i || d j)) ≤ [n].countP (fun j => !d j) := List.countP_mono_left fun x _ h => by simp at h ⊢; exact h.2
      exact Nat.add_lt_add_of_lt_of_le h1 h2
    · have e : i = n := by omega
      subst e
      have h1 := hle i
      simp [hd]
      simp at h1
      omega

/-- A region in whatever order: a relation that every operation that may come up keeps. -/
theorem wpAny_inv (I : (Nat → Bool) → Act → World → Prop) (hdep : ∀ i oi, ops[i]? = some oi → ∀ e ∈ oi.after, Region.binds md e = true → e.on < i)
    (hend : ∀ d a w, (∀ j, j < ops.size → d j = true) → I d a w → Q .normal a w)
    (hstep : ∀ i oi d a w, ops[i]? = some oi → d i = false → (∀ e ∈ oi.after, Region.binds md e = true → d e.on = true) → I d a w → wpOp P ops Q i (I (fun j => j == i || d j)) a w) :
    ∀ (fuel : Nat) (listed : Array Bool) (a : Act) (w : World), listed.size = ops.size → undone ops.size (fun j => listed.getD j false) ≤ fuel → I (fun j => listed.getD j false) a w → wpAny P md ops Q fuel listed a w := by
  have hall : ∀ (listed : Array Bool), listed.size = ops.size → Region.ready md ops listed = [] → ∀ j, j < ops.size → listed.getD j false = true := by
    intro listed hs hr j
    induction j using Nat.strongRecOn with
    | _ j ih =>
      intro hj
      cases hl : listed.getD j false with
      | true => rfl
      | false =>
        exfalso
        have : j ∈ Region.ready md ops listed := mem_ready.2 ⟨by simp [hs, hj] at hl ⊢; exact hl, ops[j], by simp [hj], fun e he hb => ih e.on (hdep j ops[j] (by simp [hj]) e he hb) (by have := hdep j ops[j] (by simp [hj]) e he hb; omega)⟩
        rw [hr] at this
        cases this
  intro fuel
  induction fuel with
  | zero =>
    intro listed a w hs hu hI
    have h0 : Region.ready md ops listed = [] := by
      cases hr : Region.ready md ops listed with
      | nil => rfl
      | cons i r =>
        exfalso
        have hi : i ∈ Region.ready md ops listed := by rw [hr]; simp
        obtain ⟨h1, oi, hoi, _⟩ := mem_ready.1 hi
        have hil : i < ops.size := (Array.getElem?_eq_some_iff.1 hoi).1
        have := undone_lt (n := ops.size) (d := fun j => listed.getD j false) hil (by simp [hs, hil] at h1 ⊢; exact h1)
        omega
    exact ⟨h0, hend _ a w (hall listed hs h0) hI⟩
  | succ fuel ih =>
    intro listed a w hs hu hI
    refine ⟨fun h0 => hend _ a w (hall listed hs h0) hI, fun i hi => ?_⟩
    obtain ⟨h1, oi, hoi, hdeps⟩ := mem_ready.1 hi
    have hil : i < ops.size := (Array.getElem?_eq_some_iff.1 hoi).1
    have hdi : listed.getD i false = false := by simp [hs, hil] at h1 ⊢; exact h1
    refine wpOp_mono (fun a' w' hI' => ?_) (hstep i oi _ a w hoi hdi hdeps hI)
    have hset : (fun j => (listed.setIfInBounds i true).getD j false) = fun j => j == i || listed.getD j false := by
      funext j
      by_cases hji : j = i
      · subst hji; simp [hs, hil]
      · have hij : ¬ i = j := fun e => hji e.symm
        simp [hij, hji]
    refine ih _ _ _ (by simpa using hs) ?_ (by rw [hset]; exact hI')
    rw [hset]
    have := undone_lt (n := ops.size) (d := fun j => listed.getD j false) hil hdi
    omega
theorem wp_region_inv {id : Nat} {a : Act} {w : World} (I : (Nat → Bool) → Act → World → Prop) (hm : P.follows .mixedOrders = true)
    (hdep : (ops.toList.zipIdx.all fun x => x.1.after.all fun e => decide (e.on < x.2)) = true)
    (h0 : I (fun _ => false) a w.drew) (hend : ∀ d a w, (∀ j, j < ops.size → d j = true) → I d a w → Q .normal a w)
    (hstep : ∀ i oi d a w, ops[i]? = some oi → d i = false → (∀ e ∈ oi.after, Region.binds .any e = true → d e.on = true) → I d a w → wpOp P ops Q i (I (fun j => j == i || d j)) a w) :
    (Code.region id ops true).wp P Q a w := by
  refine wp_region_any hm (wpAny_inv I (fun i oi hoi e he _ => ?_) hend hstep _ _ _ _ (by simp) ?_ ?_)
  · rw [List.all_eq_true] at hdep
    have := hdep (oi, i) (by
      rw [List.mem_zipIdx_iff_getElem?]
      simpa using hoi)
    simp only [Array.all_eq_true_iff_forall_mem] at this
    simpa using this e he
  · unfold undone
    exact Nat.le_trans List.countP_le_length (by simp)
  · have : (fun j => (Array.replicate ops.size false).getD j false) = fun _ : Nat => false := by funext j; by_cases h : j < ops.size <;> simp [Array.getD, h]
    rw [this]
    exact h0
theorem wpOp_do {i : Nat} {oi : Oper} {a : Act} {w : World} {K : Act → World → Prop} (hi : ops[i]? = some oi) (hw : Region.wanted oi (yielded ops a.tmps) = true) (h : oi.wp P a w K Q) : wpOp P ops Q i K a w := by
  unfold wpOp
  simp only [hi, hw, if_true]
  exact Or.inl h
end
end Go.Proofs.YtkpielgdfahanaaGreat
