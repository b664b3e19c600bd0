/- The statements' own same: two logs that read alike are told the same. -/
import Derived.Test.YtmogoaceangblaaPackLaw
import Derived.Test.YtmogoaceangblaaRefRun
namespace Go.Proofs.Ytmogoaceangblaa
open Go.RowKit

theorem ints_cells {w : World} {b off : Nat} {z : List Int} (h : w.rangeAt b off (icells z)) : ∀ j, j < z.length → w.cell? ⟨b, off + j, none⟩ = some (.int .i64 (z.getD j 0)) := by
  intro j hj
  have := h j _ (icells_at (List.getElem?_eq_getElem hj))
  rw [this, List.getD, List.getElem?_eq_getElem hj]
  rfl
theorem ints_equal' (A B : Option Addr) (z : List Int) (c d : Nat) (w : World) (hA : IntsAt w A z) (hB : IntsAt w B z) (hz : z.length ≤ 4001) :
    Calls Try.prog 9 #[.slice A z.length c, .slice B z.length d] w fun e w' => e = .returned (.bool true) ∧ Below w.heap.size w w' := by
  by_cases h0 : z.length = 0
  · rw [h0]
    exact (Try.slices_Equal_int_empty A B c 0 d w (by omega)).mono fun e w' ⟨h1, h2⟩ => ⟨by simpa using h1, by rw [h2]; exact Below.refl _ _⟩
  · obtain ⟨b1, o1, rfl, h1⟩ := hA (by omega)
    obtain ⟨b2, o2, rfl, h2⟩ := hB (by omega)
    refine (Try.slices_Equal_int b1 o1 z.length c b2 o2 z.length d z z w (Nat.le_refl _) (Nat.le_refl _) (by omega) (by omega) (ints_cells h1) (ints_cells h2)).mono ?_
    rintro e w' ⟨rfl, q, rfl⟩
    exact ⟨by simp, below_drewN (Below.refl _ _) _⟩
theorem ints_equal (A B : Option Addr) (z : List Int) (c d : Nat) (w : World) (hA : IntsAt w A z) (hB : IntsAt w B z) (hz : z.length ≤ 4000) :
    Calls Try.prog 9 #[.slice A z.length c, .slice B z.length d] w fun e w' => e = .returned (.bool true) ∧ Below w.heap.size w w' := ints_equal' A B z c d w hA hB (by omega)
end Go.Proofs.Ytmogoaceangblaa
