/- chiplog.Writes counts, over all entries, the registers that differ from the entry before. -/
import Derived.Test.YtmogoaceangblaaChanged
import Derived.Deep.RegionHeld3
namespace Go.Proofs.Ytmogoaceangblaa
open Go.RowKit

def writesTo (xs : List (List Int)) : Nat → Nat
  | 0 => 0
  | k + 1 => writesTo xs k + (diffs (prev xs k) (xs.getD k [])).length
theorem writesTo_le (xs : List (List Int)) (k : Nat) : writesTo xs k ≤ 14 * k := by
  induction k with
  | zero => exact Nat.le_refl _
  | succ k ih =>
    have := diffsTo_le (prev xs k) (xs.getD k []) 14
    unfold writesTo diffs
    omega
def Written (xs : List (List Int)) (w : World) (e : Ending) (w' : World) : Prop :=
  e = .returned (.tuple #[.int .i64 (if okLog xs then (writesTo xs xs.length : Int) else 0), .int .i64 (if okLog xs then 0 else 1)]) ∧ Below w.heap.size w w'
theorem written_no {xs : List (List Int)} {w w' : World} (h : okLog xs = false) (hb : Below w.heap.size w w') : Written xs w (.returned (.tuple #[.int .i64 0, .int .i64 1])) w' := by
  unfold Written; rw [h]; exact ⟨rfl, hb⟩
theorem written_yes {xs : List (List Int)} {w w' : World} (h : okLog xs = true) (hb : Below w.heap.size w w') : Written xs w (.returned (.tuple #[.int .i64 (writesTo xs xs.length : Int), .int .i64 0])) w' := by
  unfold Written; rw [h]; exact ⟨rfl, hb⟩
theorem okLog_len {xs : List (List Int)} (h : okLog xs = true) : xs.length ≤ 4000 := by unfold okLog at h; simp at h; exact h.1
theorem okLog_14 {xs : List (List Int)} (h : okLog xs = true) : ∀ z ∈ xs, z.length = 14 := by
  intro z hz
  unfold okLog at h
  rw [Bool.and_eq_true, List.all_eq_true] at h
  exact right_14 (h.2 z hz)

end Go.Proofs.Ytmogoaceangblaa
