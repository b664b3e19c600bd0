/- A region whose order of evaluation is left open, where each operation has one value in whatever order, and the world only changes as a relation allows. -/
import Derived.Test.YtkpielgdfahanaaGreatInv
namespace Go.Proofs.YtkpielgdfahanaaGreat
open Go.RowKit Go.Maps
section
variable {P : Program} {ops : Array Oper} {Q : Exit → Act → World → Prop}
/-- What an operation leaves: its own slot, and a world of R. -/
def Stepped (fr : (Nat → Value) → Array Value) (val : Nat → Value) (R : World → Prop) (i : Nat) (X : Nat → Value) (a' : Act) (w' : World) : Prop :=
  a' = ⟨fr (fun j => if j = i then val i else X j), []⟩ ∧ R w'
theorem wp_region_pure {id n : Nat} {a : Act} {w : World} (fr : (Nat → Value) → Array Value) (val : Nat → Value) (R : World → Prop) (X0 : Nat → Value) (hm : P.follows .mixedOrders = true) (hn : ops.size = n)
    (hdep : (ops.toList.zipIdx.all fun x => x.1.after.all fun e => decide (e.on < x.2)) = true)
    (ha : a = ⟨fr X0, []⟩) (hR : R w.drew)
    (hfr : ∀ X, (∀ j, j < n → X j = val j) → fr X = fr val)
    (hstep : ∀ i oi, ops[i]? = some oi → ∀ X w, (∀ e ∈ oi.after, Region.binds .any e = true → X e.on = val e.on) → R w → wpOp P ops Q i (Stepped fr val R i X) ⟨fr X, []⟩ w)
    (hend : ∀ w, R w → Q .normal ⟨fr val, []⟩ w) : (Code.region id ops true).wp P Q a w := by
  subst ha
  refine wp_region_inv (fun d a w => ∃ X, a = ⟨fr X, []⟩ ∧ (∀ j, d j = true → X j = val j) ∧ R w) hm hdep ⟨X0, rfl, (fun j h => by cases h), hR⟩ ?_ ?_
  · rintro d a w hd ⟨X, rfl, hX, hr⟩
    rw [hfr X fun j hj => hX j (hd j (by omega))]
    exact hend w hr
  · rintro i oi d a w hoi hdi hdeps ⟨X, rfl, hX, hr⟩
    refine wpOp_mono ?_ (hstep i oi hoi X w (fun e he hb => hX e.on (hdeps e he hb)) hr)
    rintro a' w' ⟨rfl, hr'⟩
    refine ⟨_, rfl, fun j hj => ?_, hr'⟩
    by_cases e : j = i
    · subst e; simp
    · simp only [e, if_false]
      exact hX j (by simpa [e] using hj)
theorem Stepped.mk2 {fr : (Nat → Value) → Array Value} {val : Nat → Value} {R : World → Prop} {i : Nat} {X : Nat → Value} {w' : World} (X' : Nat → Value) (hX : ∀ j, j ≠ i → X' j = X j) (hi : X' i = val i) (hR : R w') : Stepped fr val R i X ⟨fr X', []⟩ w' := by
  have : X' = fun j => if j = i then val i else X j := by
    funext j
    by_cases e : j = i
    · subst e; simp [hi]
    · simp [e, hX j e]
  rw [this]
  exact ⟨rfl, hR⟩
theorem wpOp_skip {i : Nat} {oi : Oper} {a : Act} {w : World} {K : Act → World → Prop} (hi : ops[i]? = some oi) (hw : Region.wanted oi (yielded ops a.tmps) = false) (h : K (a.put oi.dst undef) w) : wpOp P ops Q i K a w := by
  unfold wpOp
  simp only [hi, hw]
  exact h
end
end Go.Proofs.YtkpielgdfahanaaGreat
