/- The reference's run and repeat: how many entries are equal to the one before, or come again. -/
import Derived.Test.YtmogoaceangblaaPackSpec
import Derived.Test.YtmogoaceangblaaDiffer
import Derived.Test.YtmogoaceangblaaShelf
import Derived.Deep.RegionHeld3
namespace Go.Proofs.Ytmogoaceangblaa
open Go.RowKit

theorem eq_quiet (B1 B2 : Option Addr) (c1 c2 : Nat) (x y : List Int) (v : Bool) (hx : x.length = 14) (hy : y.length = 14) (hv : (x == y) = v) (w : World) (h1 : IntsAt w B1 x) (h2 : IntsAt w B2 y) :
    Calls Try.prog 9 #[.slice B1 14 c1, .slice B2 14 c2] w fun e w' => e = .returned (.bool v) ∧ ∃ q, w' = w.drewN q := by
  obtain ⟨b1, o1, rfl, r1⟩ := h1 (by omega)
  obtain ⟨b2, o2, rfl, r2⟩ := h2 (by omega)
  have hcell : ∀ (b o : Nat) (z : List Int), w.rangeAt b o (icells z) → ∀ j, j < z.length → w.cell? ⟨b, o + j, none⟩ = some (.int .i64 (z.getD j 0)) := by
    intro b o z hr j hj
    refine hr j _ (icells_at ?_)
    rw [List.getD, List.getElem?_eq_getElem hj]; rfl
  have h := Try.slices_Equal_int b1 o1 14 c1 b2 o2 14 c2 x y w (by omega) (by omega) (by omega) (by omega) (hcell _ _ _ r1) (hcell _ _ _ r2)
  rw [List.take_of_length_le (by omega), List.take_of_length_le (by omega), hv] at h
  exact h
theorem LogAt.row {w : World} {A : Option Addr} {xs : List (List Int)} (h : LogAt w A xs) (h14 : ∀ z ∈ xs, z.length = 14) {i : Nat} (hi : i < xs.length) :
    ∃ b off B c, A = some ⟨b, off, none⟩ ∧ w.cell? ⟨b, off + i, none⟩ = some (.slice B 14 c) ∧ IntsAt w B (xs.getD i []) ∧ (xs.getD i []).length = 14 := by
  obtain ⟨b, off, B, c, z, e, hz, h1, h2⟩ := h i hi
  have e2 : xs.getD i [] = z := by rw [List.getD, hz]; rfl
  have hl := h14 z (List.mem_of_getElem? hz)
  rw [e2]
  exact ⟨b, off, B, c, e, by rw [← hl]; exact h1, h2, hl⟩

end Go.Proofs.Ytmogoaceangblaa
