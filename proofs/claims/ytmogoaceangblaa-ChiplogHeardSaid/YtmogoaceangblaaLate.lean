/- Regions whose last operations write what the first ones read: a fact that holds until the first of the last ones comes up. -/
import Derived.Test.YtmogoaceangblaaTape
import Derived.Deep.RegionHeld3
import Derived.StillTail
namespace Go.Proofs.Ytmogoaceangblaa
open Go.RowKit

section
variable {P : Program} {ops : Array Oper} {md : Region.Mode} {Q : Exit → Act → World → Prop} {S : World → Prop} {bar : Nat → Bool}
/-- Whatever order is picked from here on; S holds behind each operation until the first of the last ones has come up. -/
def wpLate (P : Program) (md : Region.Mode) (ops : Array Oper) (Q : Exit → Act → World → Prop) (S : World → Prop) (bar : Nat → Bool) : Nat → Bool → Array Bool → Act → World → Prop
  | 0, _, listed, a, w => Region.ready md ops listed = [] ∧ Q .normal a w
  | fuel + 1, lt, listed, a, w => (Region.ready md ops listed = [] → Q .normal a w) ∧
    ∀ i ∈ Region.ready md ops listed, wpOp P ops Q i (fun a' w' => ((lt || bar i) = false → S w') ∧ wpLate P md ops Q S bar fuel (lt || bar i) (listed.setIfInBounds i true) a' w') a w
theorem wpAny_of_late : ∀ (fuel : Nat) (lt : Bool) (listed : Array Bool) (a : Act) (w : World), wpLate P md ops Q S bar fuel lt listed a w → wpAny P md ops Q fuel listed a w
  | 0, _, _, _, _, h => h
  | fuel + 1, _, _, _, _, h => ⟨h.1, fun i hi => wpOp_mono (fun a' w' h' => wpAny_of_late fuel _ _ a' w' h'.2) (h.2 i hi)⟩
theorem not_waits {i j : Nat} {listed : Array Bool} (hr : i ∈ Region.ready md ops listed) (hj : j ∈ Region.ready md ops listed) : ∀ oj, ops[j]? = some oj → ∀ e ∈ oj.after, Region.binds md e = true → e.on ≠ i := by
  intro oj hoj e he hb heq
  obtain ⟨_, oj', hoj', hall⟩ := mem_ready.1 hj
  rw [hoj] at hoj'; cases hoj'
  have h1 := hall e he hb
  have h0 := (mem_ready.1 hr).1
  rw [heq] at h1
  rcases Nat.lt_or_ge i listed.size with h' | h'
  · simp [h'] at h0 h1; rw [h0] at h1; cases h1
  · simp [Array.getElem?_eq_none h'] at h1
theorem free_set {i j : Nat} {oi : Oper} {listed : Array Bool} (hjun : listed.getD j true = false)
    (hfree : ∀ j oj, ops[j]? = some oj → j ≠ i → listed.getD j true = false → (∀ e ∈ oj.after, Region.binds md e = true → e.on ≠ i) → oi.apart ops oj = true) :
    ∀ k ok, ops[k]? = some ok → k ≠ i → (listed.setIfInBounds j true).getD k true = false → (∀ e ∈ ok.after, Region.binds md e = true → e.on ≠ i) → oi.apart ops ok = true := by
  intro k ok hk hki hun hno
  refine hfree k ok hk hki ?_ hno
  by_cases hjk : j = k
  · subst hjk; exact hjun
  · rw [getD_set_ne true hjk] at hun; exact hun
/-- An operation that reads what S tells may be taken first, if the last ones wait for it. -/
theorem wpLate_first {i : Nat} {oi : Oper} {v : Value} (hi : ops[i]? = some oi) (hsel : ∀ (j : Nat) (o : Oper) cs b, ops[j]? = some o → o.op ≠ .select cs b)
    (hQ : ∀ c a w, Q (.panic c) (a.put oi.dst v) w → Q (.panic c) a w) (hb : ∀ j, bar j = true → Region.waitsFor md ops j i = true) (hbi : bar i = false) :
    ∀ (fuel : Nat) (listed : Array Bool) (a : Act) (w : World),
      (∀ j oj, ops[j]? = some oj → j ≠ i → listed.getD j true = false → (∀ e ∈ oj.after, Region.binds md e = true → e.on ≠ i) → oi.apart ops oj = true) →
      i ∈ Region.ready md ops listed → YieldsIf P ops S oi v a → S w →
      wpLate P md ops Q S bar fuel false (listed.setIfInBounds i true) (a.put oi.dst v) w → wpLate P md ops Q S bar (fuel + 1) false listed a w
  | 0, listed, a, w, _, hr, hy, hS, H => by
    refine ⟨fun h => (by rw [h] at hr; cases hr), fun j hj => ?_⟩
    by_cases hji : j = i
    · subst hji; exact hy.wpOp hi hS ⟨fun _ => hS, by rw [hbi]; exact H⟩
    · have := ready_mono hj hji
      rw [H.1] at this
      cases this
  | fuel + 1, listed, a, w, hfree, hr, hy, hS, H => by
    refine ⟨fun h => (by rw [h] at hr; cases hr), fun j hj => ?_⟩
    by_cases hji : j = i
    · subst hji; exact hy.wpOp hi hS ⟨fun _ => hS, by rw [hbi]; exact H⟩
    · obtain ⟨hjun, oj, hoj, _⟩ := mem_ready.1 hj
      have hnot := not_waits hr hj oj hoj
      have hbj : bar j = false := by
        cases hbj : bar j with
        | false => rfl
        | true =>
          obtain ⟨ok, hok, e, he, hbd, hon⟩ := Region.waitsFor_spec (hb j hbj)
          rw [hoj] at hok; cases hok
          exact absurd hon (hnot e he hbd)
      have h2 := wpOp_putIf hoj (hfree j oj hoj hji hjun hnot) (fun cs b => hsel i oi cs b hi) (fun cs b => hsel j oj cs b hoj) hQ hy (H.2 j (ready_mono hj hji))
      refine wpOp_mono (fun a' w' h3 => ⟨h3.2.1, ?_⟩) h2
      have h4 := h3.2.2
      have hSw := h3.2.1 (by rw [hbj]; rfl)
      rw [hbj] at h4 ⊢
      refine wpLate_first hi hsel hQ hb hbi fuel (listed.setIfInBounds j true) a' w' (free_set hjun hfree) (ready_mono hr (Ne.symm hji)) h3.1 hSw ?_
      rw [Array.setIfInBounds_comm _ _ hji]
      exact h4
/-- An operation that yields its value in whatever world may be taken first. -/
theorem wpLate_pure1 {i : Nat} {oi : Oper} {v : Value} (hi : ops[i]? = some oi) (hsel : ∀ (j : Nat) (o : Oper) cs b, ops[j]? = some o → o.op ≠ .select cs b)
    (hQ : ∀ c a w, Q (.panic c) (a.put oi.dst v) w → Q (.panic c) a w) (hbi : bar i = false) :
    ∀ (fuel : Nat) (lt : Bool) (listed : Array Bool) (a : Act) (w : World),
      (∀ j oj, ops[j]? = some oj → j ≠ i → listed.getD j true = false → (∀ e ∈ oj.after, Region.binds md e = true → e.on ≠ i) → oi.apart ops oj = true) →
      i ∈ Region.ready md ops listed → YieldsIf P ops (fun _ => True) oi v a → (lt = false → S w) →
      wpLate P md ops Q S bar fuel lt (listed.setIfInBounds i true) (a.put oi.dst v) w → wpLate P md ops Q S bar (fuel + 1) lt listed a w
  | 0, lt, listed, a, w, _, hr, hy, hS, H => by
    refine ⟨fun h => (by rw [h] at hr; cases hr), fun j hj => ?_⟩
    by_cases hji : j = i
    · subst hji; exact hy.wpOp hi trivial ⟨fun h => hS (by rw [hbi, Bool.or_false] at h; exact h), by rw [hbi, Bool.or_false]; exact H⟩
    · have := ready_mono hj hji
      rw [H.1] at this
      cases this
  | fuel + 1, lt, listed, a, w, hfree, hr, hy, hS, H => by
    refine ⟨fun h => (by rw [h] at hr; cases hr), fun j hj => ?_⟩
    by_cases hji : j = i
    · subst hji; exact hy.wpOp hi trivial ⟨fun h => hS (by rw [hbi, Bool.or_false] at h; exact h), by rw [hbi, Bool.or_false]; exact H⟩
    · obtain ⟨hjun, oj, hoj, _⟩ := mem_ready.1 hj
      have hnot := not_waits hr hj oj hoj
      have h2 := wpOp_putIf hoj (hfree j oj hoj hji hjun hnot) (fun cs b => hsel i oi cs b hi) (fun cs b => hsel j oj cs b hoj) hQ hy (H.2 j (ready_mono hj hji))
      refine wpOp_mono (fun a' w' h3 => ⟨h3.2.1, ?_⟩) h2
      refine wpLate_pure1 hi hsel hQ hbi fuel (lt || bar j) (listed.setIfInBounds j true) a' w' (free_set hjun hfree) (ready_mono hr (Ne.symm hji)) h3.1 h3.2.1 ?_
      rw [Array.setIfInBounds_comm _ _ hji]
      exact h3.2.2
theorem wpLate_take {i : Nat} {oi : Oper} {v : Value} {fuel : Nat} {listed : Array Bool} {a : Act} {w : World} {bars : List Nat} (hi : ops[i]? = some oi)
    (hs : Region.noSelect ops = true) (hf : Region.free md ops listed i = true) (hr : (Region.ready md ops listed).contains i = true) (hbs : (bars.all fun j => Region.waitsFor md ops j i) = true) (hbi : bars.contains i = false)
    (hQ : ∀ c a w, Q (.panic c) (a.put oi.dst v) w → Q (.panic c) a w) (hy : YieldsIf P ops S oi v a) (hS : S w)
    (h : wpLate P md ops Q S (fun j => bars.contains j) fuel false (listed.setIfInBounds i true) (a.put oi.dst v) w) : wpLate P md ops Q S (fun j => bars.contains j) (fuel + 1) false listed a w :=
  wpLate_first hi (Region.noSelect_spec hs) hQ (fun j hj => by
    rw [List.all_eq_true] at hbs
    exact hbs j (by simpa using hj)) hbi fuel listed a w (Region.free_spec hi hf) (by simpa using hr) hy hS h
theorem wpLate_pure {i : Nat} {oi : Oper} {v : Value} {fuel : Nat} {lt : Bool} {listed : Array Bool} {a : Act} {w : World} (hi : ops[i]? = some oi)
    (hs : Region.noSelect ops = true) (hf : Region.free md ops listed i = true) (hr : (Region.ready md ops listed).contains i = true) (hbi : bar i = false)
    (hQ : ∀ c a w, Q (.panic c) (a.put oi.dst v) w → Q (.panic c) a w) (hy : YieldsIf P ops (fun _ => True) oi v a) (hS : lt = false → S w)
    (h : wpLate P md ops Q S bar fuel lt (listed.setIfInBounds i true) (a.put oi.dst v) w) : wpLate P md ops Q S bar (fuel + 1) lt listed a w :=
  wpLate_pure1 hi (Region.noSelect_spec hs) hQ hbi fuel lt listed a w (Region.free_spec hi hf) (by simpa using hr) hy hS h
theorem wpLate_all {rs : List Nat} {fuel : Nat} {lt : Bool} {listed : Array Bool} {a : Act} {w : World} (hr : Region.ready md ops listed = rs) (hne : rs ≠ [])
    (h : ∀ i ∈ rs, wpOp P ops Q i (fun a' w' => ((lt || bar i) = false → S w') ∧ wpLate P md ops Q S bar fuel (lt || bar i) (listed.setIfInBounds i true) a' w') a w) : wpLate P md ops Q S bar (fuel + 1) lt listed a w :=
  ⟨fun h0 => absurd (hr ▸ h0) hne, hr ▸ h⟩
theorem wpLate_done {lt : Bool} {listed : Array Bool} {a : Act} {w : World} (hr : Region.ready md ops listed = []) (h : Q .normal a w) :
    ∀ fuel, wpLate P md ops Q S bar fuel lt listed a w
  | 0 => ⟨hr, h⟩
  | _ + 1 => ⟨fun _ => h, by rw [hr]; simp⟩
theorem wp_region_late {id : Nat} {a : Act} {w : World} (bars : List Nat) (hm : P.follows .mixedOrders = true)
    (h : wpLate P .any ops Q S (fun j => bars.contains j) ops.size false (Array.replicate ops.size false) a w.drew) : (Code.region id ops true).wp P Q a w :=
  wp_region_any hm (wpAny_of_late _ _ _ _ _ h)
/-- One operation that comes up and is carried out by a law on 'Oper.wp'. -/
theorem wpOp_do {i : Nat} {oi : Oper} {a : Act} {w : World} {K : Act → World → Prop} (hi : ops[i]? = some oi) (hw : Region.wanted oi (yielded ops a.tmps) = true) (h : oi.wp P a w K Q) : wpOp P ops Q i K a w := by
  unfold wpOp
  simp only [hi, hw, if_true]
  exact Or.inl h
end
end Go.Proofs.Ytmogoaceangblaa
