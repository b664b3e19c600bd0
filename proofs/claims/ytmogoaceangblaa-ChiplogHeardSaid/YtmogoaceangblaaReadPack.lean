/- A packed log is read as it was, whatever bytes follow; what its entries cost. In plain lists. -/
import Derived.Test.YtmogoaceangblaaReadSpec
namespace Go.Proofs.Ytmogoaceangblaa
open Go.RowKit

theorem upto_all (ok : Nat → Bool) (f n : Nat) : ∀ m, n ≤ m → m < upto ok f n → ok m = true := by
  induction f generalizing n with
  | zero => intro m h1 h2; unfold upto at h2; omega
  | succ f ih =>
    intro m h1 h2
    unfold upto at h2
    split at h2
    · rename_i h
      by_cases e : m = n
      · subst e; exact h
      · exact ih (n + 1) m (by omega) h2
    · omega
theorem upto_zero (ok : Nat → Bool) (f n : Nat) (h : ok n = true) (hf : 0 < f) : n < upto ok f n := by
  cases f with
  | zero => omega
  | succ f => rw [upto_yes h]; have := (upto_le ok f (n + 1)).1; omega
theorem take_snoc' {α : Type} (xs : List α) (i : Nat) (d : α) (h : i < xs.length) : xs.take i ++ [xs.getD i d] = xs.take (i + 1) := by
  rw [List.take_add_one, List.getElem?_eq_getElem h, List.getD, List.getElem?_eq_getElem h]; rfl
theorem lastOf_take (xs : List (List Int)) (i : Nat) (h : i ≤ xs.length) : lastOf (xs.take i) = prev xs i := by
  unfold lastOf prev
  have hl : (xs.take i).length = i := by simp; omega
  rw [hl]
  split
  · rfl
  · rename_i h0
    rw [List.getD, List.getD, List.getElem?_take, if_pos (by omega)]
theorem runsL_ok (x : List Int) : ∀ (k : Nat) (log : List (List Int)) (cyc : List Int), log.length + k ≤ 4000 →
    runsL x k log cyc = .inr (log ++ List.replicate k x, cyc ++ List.replicate k 6)
  | 0, log, cyc, _ => by simp [runsL]
  | k + 1, log, cyc, h => by
    have hp : putL log cyc x 6 = .inr (log ++ [x], cyc ++ [6]) := by unfold putL; rw [if_neg (by omega)]
    rw [runsL, hp]
    simp only
    rw [runsL_ok x k _ _ (by simp; omega)]
    simp [List.replicate_succ]
theorem take_run (xs : List (List Int)) (i : Nat) (x : List Int) : ∀ (a : Nat), i + a ≤ xs.length → (∀ n, n < a → xs.getD (i + n) [] = x) → xs.take i ++ List.replicate a x = xs.take (i + a)
  | 0, _, _ => by simp
  | a + 1, h, hx => by
    rw [List.replicate_succ', ← List.append_assoc, take_run xs i x a (by omega) (fun n hn => hx n (by omega)), ← hx a (by omega), take_snoc' _ _ _ (by omega)]
    rfl
theorem repsL_ok (xs : List (List Int)) (d : Nat) (hd : 1 ≤ d) (h4 : xs.length ≤ 4000) : ∀ (k : Nat) (cost : Int) (i : Nat) (cyc : List Int), i + k ≤ xs.length → d ≤ i →
    (∀ n, n < k → xs.getD (i + n) [] = xs.getD (i + n - d) []) → ∃ cs : List Int, repsL d k cost (xs.take i) cyc = .inr (xs.take (i + k), cyc ++ cs) ∧ cs.length = k ∧ ∀ c ∈ cs, c = cost ∨ c = 10
  | 0, cost, i, cyc, _, _, _ => ⟨[], by simp [repsL], rfl, by simp⟩
  | k + 1, cost, i, cyc, hi, hdi, hx => by
    have hl : (xs.take i).length = i := by simp; omega
    have hg : (xs.take i).getD (i - d) [] = xs.getD i [] := by
      have h0 := hx 0 (by omega)
      rw [Nat.add_zero] at h0
      rw [h0, List.getD, List.getD, List.getElem?_take, if_pos (by omega)]
    have hp : putL (xs.take i) cyc ((xs.take i).getD ((xs.take i).length - d) []) cost = .inr (xs.take (i + 1), cyc ++ [cost]) := by
      unfold putL; rw [if_neg (by omega), hl, hg, take_snoc' _ _ _ (by omega)]
    obtain ⟨cs, h1, h2, h3⟩ := repsL_ok xs d hd h4 k 10 (i + 1) (cyc ++ [cost]) (by omega) (by omega) (fun n hn => by have := hx (n + 1) (by omega); rwa [show i + (n + 1) = i + 1 + n by omega] at this)
    refine ⟨cost :: cs, ?_, by simp [h2], ?_⟩
    · rw [repsL, hp]
      simp only
      rw [h1, show i + 1 + k = i + (k + 1) by omega]
      simp
    · intro c hc
      simp at hc
      rcases hc with rfl | hc
      · exact Or.inl rfl
      · rcases h3 c hc with h | h <;> exact Or.inr h

/-! The mask of what differs. -/
theorem maskL_bit (x y : List Int) (n k : Nat) : (maskL (diffsTo x y n)).testBit k = decide (k < n ∧ x.getD k 0 ≠ y.getD k 0) := by
  induction n with
  | zero => simp [diffsTo, maskL]
  | succ n ih =>
    have hlt := (ups_diffs x y n).1
    unfold diffsTo
    split
    · rename_i h
      rw [ih]
      by_cases e : k = n
      · subst e
        generalize x.getD k 0 = p at *
        generalize y.getD k 0 = q at *
        simp [h]
      · have : (k < n + 1) ↔ (k < n) := by omega
        simp [this]
    · rename_i h
      rw [maskL_snoc, Int.toNat_natCast, Nat.add_comm]
      by_cases e : k = n
      · subst e
        rw [Nat.testBit_two_pow_add_eq, ih]
        generalize x.getD k 0 = p at *
        generalize y.getD k 0 = q at *
        simp [h]
      · by_cases hk : k < n
        · rw [Nat.testBit_two_pow_add_gt hk, ih]
          simp [hk, Nat.lt_succ_of_lt hk]
        · rw [Nat.testBit_lt_two_pow]
          · have : ¬ k < n + 1 := by omega
            simp [this]
          · have h1 : 2 ^ (n + 1) ≤ 2 ^ k := Nat.pow_le_pow_right (by decide) (by omega)
            have hp : (2 : Nat) ^ (n + 1) = 2 ^ n + 2 ^ n := by rw [Nat.pow_succ]; omega
            omega
theorem diffsTo_mono (x y : List Int) (k : Nat) : ∀ n, k ≤ n → ∃ l, diffsTo x y n = diffsTo x y k ++ l
  | 0, h => by
    have e : k = 0 := by omega
    subst e
    exact ⟨[], by simp⟩
  | n + 1, h => by
    by_cases e : k = n + 1
    · subst e; exact ⟨[], by simp⟩
    · obtain ⟨l, hl⟩ := diffsTo_mono x y k n (by omega)
      rw [diffsTo]
      split
      · exact ⟨l, hl⟩
      · exact ⟨l ++ [(n : Int)], by rw [hl]; simp⟩
theorem diffsTo_at (x y : List Int) (k n : Nat) (h : k < n) (hne : x.getD k 0 ≠ y.getD k 0) : (diffsTo x y n)[(diffsTo x y k).length]? = some (k : Int) := by
  obtain ⟨l, hl⟩ := diffsTo_mono x y (k + 1) n h
  rw [hl, diffsTo, if_neg hne]
  simp
theorem set_step (x y : List Int) (k : Nat) (hx : x.length = 14) (hy : y.length = 14) (hk : k < 14) : (y.take k ++ x.drop k).set k (y.getD k 0) = y.take (k + 1) ++ x.drop (k + 1) := by
  apply List.ext_getElem?
  intro j
  rw [List.getElem?_set]
  have hl : (y.take k ++ x.drop k).length = 14 := by simp; omega
  by_cases e : k = j
  · subst e
    rw [if_pos rfl, if_pos (by omega), List.getElem?_append_left (by simp; omega), List.getElem?_take, if_pos (by omega), List.getElem?_eq_getElem (by omega), List.getD, List.getElem?_eq_getElem (by omega)]
    rfl
  · rw [if_neg e]
    by_cases hj : j < k
    · rw [List.getElem?_append_left (by simp; omega), List.getElem?_append_left (by simp; omega), List.getElem?_take, List.getElem?_take, if_pos hj, if_pos (by omega)]
    · rw [List.getElem?_append_right (by simp; omega), List.getElem?_append_right (by simp; omega), List.getElem?_drop, List.getElem?_drop]
      simp
      congr 1
      omega
theorem keep_step (x y : List Int) (k : Nat) (hx : x.length = 14) (hy : y.length = 14) (hk : k < 14) (he : x.getD k 0 = y.getD k 0) : y.take k ++ x.drop k = y.take (k + 1) ++ x.drop (k + 1) := by
  rw [← set_step x y k hx hy hk, ← he]
  apply List.ext_getElem?
  intro j
  rw [List.getElem?_set]
  have hl : (y.take k ++ x.drop k).length = 14 := by simp; omega
  by_cases e : k = j
  · subst e
    rw [if_pos rfl, if_pos (by omega), List.getElem?_append_right (by simp; omega), List.getElem?_drop, List.getElem?_eq_getElem (by simp; omega), List.getD, List.getElem?_eq_getElem (by omega)]
    simp
    congr 1
    omega
  · rw [if_neg e]
theorem getD_mid (x y : List Int) (k : Nat) (hy : y.length = 14) (hk : k < 14) : (y.take k ++ x.drop k).getD k 0 = x.getD k 0 := by
  rw [List.getD, List.getD, List.getElem?_append_right (by simp; omega), List.getElem?_drop]
  congr 2
  simp
  omega
theorem someL_ok (b : List Int) (x y : List Int) (p : Nat) (hx : x.length = 14) (hy : y.length = 14) (hb : ∀ (j : Nat) (r : Int), (diffs x y)[j]? = some r → b[p + j]? = some (y.getD r.toNat 0)) :
    ∀ m, m ≤ 14 → someL b (maskL (diffs x y)) m (p + (diffsTo x y (14 - m)).length) (y.take (14 - m) ++ x.drop (14 - m)) (diffsTo x y (14 - m)).length = .inr (p + (diffs x y).length, y, (diffs x y).length)
  | 0, _ => by
    rw [someL]
    have : List.take 14 y ++ List.drop 14 x = y := by rw [List.take_of_length_le (by omega), List.drop_of_length_le (by omega), List.append_nil]
    rw [Nat.sub_zero, this]
    rfl
  | m + 1, hm => by
    have hk : 14 - (m + 1) = 13 - m := by omega
    have hk1 : 14 - m = 13 - m + 1 := by omega
    have hlt : 13 - m < 14 := by omega
    have ih := someL_ok b x y p hx hy hb m (by omega)
    rw [hk1] at ih
    rw [someL, hk]
    have hbit : (maskL (diffs x y)).testBit (13 - m) = decide (13 - m < 14 ∧ x.getD (13 - m) 0 ≠ y.getD (13 - m) 0) := maskL_bit x y 14 (13 - m)
    by_cases he : x.getD (13 - m) 0 = y.getD (13 - m) 0
    · rw [hbit, if_neg (by rw [decide_eq_true_iff]; exact fun h => h.2 he)]
      rw [diffsTo, if_pos he] at ih
      rw [← keep_step x y _ hx hy (by omega) he] at ih
      exact ih
    · rw [hbit, if_pos (decide_eq_true ⟨hlt, he⟩)]
      have hat := hb _ _ (diffsTo_at x y (13 - m) 14 (by omega) he)
      rw [Int.toNat_natCast] at hat
      have hw : writeL b (p + (diffsTo x y (13 - m)).length) (y.take (13 - m) ++ x.drop (13 - m)) (13 - m) = .inr (p + (diffsTo x y (13 - m)).length + 1, y.take (13 - m + 1) ++ x.drop (13 - m + 1)) := by
        unfold writeL
        rw [hat]
        simp only
        rw [getD_mid x y _ hy (by omega), if_neg (by intro h; exact he h.symm), set_step x y _ hx hy (by omega)]
      rw [hw]
      simp only
      rw [diffsTo, if_neg he] at ih
      simp only [List.length_append, List.length_singleton] at ih
      exact ih
theorem diffsTo_nil (x y : List Int) (n : Nat) (h : diffsTo x y n = []) : ∀ k, k < n → x.getD k 0 = y.getD k 0 := by
  intro k hk
  apply Classical.byContradiction
  intro hne
  have := diffsTo_at x y k n hk hne
  rw [h] at this
  simp at this
theorem eq_of_diffs (x y : List Int) (hx : x.length = 14) (hy : y.length = 14) (h : diffs x y = []) : x = y := by
  apply List.ext_getElem (by omega)
  intro i h1 h2
  have := diffsTo_nil x y 14 h i (by omega)
  rwa [List.getD, List.getD, List.getElem?_eq_getElem h1, List.getElem?_eq_getElem h2] at this
theorem one_of_diffs (x y : List Int) (hx : x.length = 14) (hy : y.length = 14) (r : Nat) (hr : r < 14) (h : diffs x y = [(r : Int)]) : x.set r (y.getD r 0) = y ∧ x.getD r 0 ≠ y.getD r 0 := by
  have hm := fun k (hk : k < 14) => maskL_bit x y 14 k
  have hml : maskL (diffsTo x y 14) = 2 ^ r := by
    have : diffsTo x y 14 = [(r : Int)] := h
    rw [this]; simp [maskL]
  have hd : ∀ k, k < 14 → (x.getD k 0 ≠ y.getD k 0 ↔ k = r) := by
    intro k hk
    have h1 := hm k hk
    rw [hml, Nat.testBit_two_pow] at h1
    generalize x.getD k 0 = p at *
    generalize y.getD k 0 = q at *
    have h2 : decide (r = k) = decide (p ≠ q) := by rw [h1]; simp [hk]
    rw [decide_eq_decide] at h2
    exact ⟨fun h3 => (h2.2 h3).symm, fun h3 => h2.1 h3.symm⟩
  refine ⟨?_, (hd r hr).2 rfl⟩
  apply List.ext_getElem (by simp; omega)
  intro i h1 h2
  rw [List.getElem_set]
  split
  · rename_i e; subst e; rw [List.getD, List.getElem?_eq_getElem h2]; rfl
  · rename_i e
    have h3 : x.getD i 0 = y.getD i 0 := by
      apply Classical.byContradiction
      intro hne
      exact e ((hd i (by omega)).1 hne).symm
    rw [List.getD, List.getD, List.getElem?_eq_getElem (by simp at h1; omega), List.getElem?_eq_getElem h2] at h3
    exact h3
theorem bestTo_spec (xs : List (List Int)) (i d : Nat) (h : 0 < (bestTo xs i d).1) : 1 ≤ (bestTo xs i d).2 ∧ (bestTo xs i d).1 = repOf xs i (bestTo xs i d).2 := by
  induction d with
  | zero => simp [bestTo] at h
  | succ d ih =>
    unfold bestTo at h ⊢
    split
    · exact ⟨by simp, rfl⟩
    · rename_i hc; rw [if_neg hc] at h; exact ih h
end Go.Proofs.Ytmogoaceangblaa
