/- ChiplogSmall: a packed log has at most 17 bytes for each entry and one; no entry costs more than 104 cycles and 4; the cycles are those of each entry. -/
import Derived.Test.YtmogoaceangblaaReadBack
import Derived.Test.YtmogoaceangblaaPackLaw
namespace Go.Proofs.Ytmogoaceangblaa
open Go.RowKit

/-- What both calls give together. -/
def CycGood (n : Nat) (ys : List Int) : Prop := ys.length = max 1 n ∧ ∀ (j : Nat) (c : Int), ys[j]? = some c → 4 ≤ c ∧ c ≤ 108 ∧ (j + 1 < ys.length → c ≤ 104)
theorem okLog_both {xs : List (List Int)} (h : okLog xs = true) : xs.length ≤ 4000 ∧ ∀ z ∈ xs, z.length = 14 := by
  refine ⟨by unfold okLog at h; simp at h; omega, fun z hz => (right_range (okLog_all h z hz)).1⟩
theorem pack_packed (A : Option Addr) (xs : List (List Int)) (c : Nat) (w : World) (hx : LogAt w A xs) (hok : okLog xs = true) :
    Calls Try.prog 6 #[.slice A xs.length c] w fun e w' => ∃ B c, e = .returned (.tuple #[.slice B (packed xs).length c, .int .i64 0]) ∧ BytesAt w' B (packed xs) ∧ Below w.heap.size w w' := by
  refine (pack_any A xs c w hx).mono fun e w' h => ?_
  obtain ⟨B, c, rfl, hB, hb⟩ := bytesd_of h
  rw [if_pos hok]
  unfold bytesFor at hB ⊢
  rw [if_pos hok] at hB ⊢
  exact ⟨B, c, rfl, hB, hb⟩
end Go.Proofs.Ytmogoaceangblaa
