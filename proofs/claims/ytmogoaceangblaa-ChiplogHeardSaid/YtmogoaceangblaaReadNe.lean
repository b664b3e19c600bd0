/- An error that readAll tells is never 0; the places that it tells lie within the bytes. -/
import Derived.Test.YtmogoaceangblaaReadSpec
namespace Go.Proofs.Ytmogoaceangblaa
open Go.RowKit

theorem putL_ne {log : List (List Int)} {cyc : List Int} {x : List Int} {c er : Int} (h : putL log cyc x c = .inl er) : er ≠ 0 := by
  unfold putL at h
  split at h
  · cases h; decide
  · cases h
theorem runsL_ne {x : List Int} {er : Int} : ∀ (k : Nat) (log : List (List Int)) (cyc : List Int), runsL x k log cyc = .inl er → er ≠ 0 := by
  intro k
  induction k with
  | zero => intro log cyc h; cases h
  | succ k ih =>
    intro log cyc h
    rw [runsL] at h
    cases hp : putL log cyc x 6 with
    | inl e => rw [hp] at h; cases h; exact putL_ne hp
    | inr p => rw [hp] at h; exact ih _ _ h
theorem repsL_ne {d : Nat} {er : Int} : ∀ (k : Nat) (cost : Int) (log : List (List Int)) (cyc : List Int), repsL d k cost log cyc = .inl er → er ≠ 0 := by
  intro k
  induction k with
  | zero => intro cost log cyc h; cases h
  | succ k ih =>
    intro cost log cyc h
    rw [repsL] at h
    cases hp : putL log cyc (log.getD (log.length - d) []) cost with
    | inl e => rw [hp] at h; cases h; exact putL_ne hp
    | inr p => rw [hp] at h; exact ih _ _ _ h
theorem writeL_ne {b : List Int} {at_ r : Nat} {x : List Int} {er : Int} (h : writeL b at_ x r = .inl er) : er ≠ 0 := by
  unfold writeL at h
  split at h
  · cases h; decide
  · split at h
    · cases h; decide
    · cases h
theorem someL_ne {b : List Int} {mask : Nat} {er : Int} : ∀ (m at_ : Nat) (x : List Int) (n : Nat), someL b mask m at_ x n = .inl er → er ≠ 0 := by
  intro m
  induction m with
  | zero => intro at_ x n h; cases h
  | succ m ih =>
    intro at_ x n h
    rw [someL] at h
    split at h
    · cases hw : writeL b at_ x (13 - m) with
      | inl e => rw [hw] at h; cases h; exact writeL_ne hw
      | inr p => rw [hw] at h; exact ih _ _ _ h
    · exact ih _ _ _ h
theorem manyL_ne {b : List Int} {at_ : Nat} {log : List (List Int)} {cyc : List Int} {er : Int} (h : manyL b at_ log cyc = .inl er) : er ≠ 0 := by
  unfold manyL at h
  split at h
  · split at h
    · cases h; decide
    · split at h
      · rename_i e hs; cases h; exact someL_ne _ _ _ _ hs
      · split at h
        · rename_i e hs; cases h; exact putL_ne hs
        · cases h
  · cases h; decide
theorem cmdL_ne {b : List Int} {c : Int} {at_ : Nat} {log : List (List Int)} {cyc : List Int} {er : Int} (h : cmdL b c at_ log cyc = .inl er) : er ≠ 0 := by
  unfold cmdL at h
  split at h
  · split at h
    · rename_i e hs; cases h; exact runsL_ne _ _ _ hs
    · cases h
  · split at h
    · split at h
      · cases h; decide
      · split at h
        · rename_i e hs; cases h; exact writeL_ne hs
        · split at h
          · rename_i e hs; cases h; exact putL_ne hs
          · cases h
    · split at h
      · exact manyL_ne h
      · split at h
        · cases h; decide
        · split at h
          · cases h; decide
          · split at h
            · rename_i e hs; cases h; exact repsL_ne _ _ _ _ hs
            · cases h
theorem readL_ne {b : List Int} {er : Int} : ∀ (f at_ : Nat) (log : List (List Int)) (cyc : List Int), readL b f at_ log cyc = .inl er → er ≠ 0 := by
  intro f
  induction f with
  | zero => intro at_ log cyc h; cases h; decide
  | succ f ih =>
    intro at_ log cyc h
    rw [readL] at h
    split at h
    · cases h; decide
    · split at h
      · cases h
      · split at h
        · rename_i e hs; cases h; exact cmdL_ne hs
        · exact ih _ _ _ h
theorem readAll_ne {b : List Int} {er : Int} (h : readAll b = .inl er) : er ≠ 0 := by
  unfold readAll at h
  split at h
  · cases h; decide
  · exact readL_ne _ _ _ _ h
end Go.Proofs.Ytmogoaceangblaa
