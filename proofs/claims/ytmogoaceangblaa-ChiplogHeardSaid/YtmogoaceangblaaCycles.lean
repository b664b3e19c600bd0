/- chiplog.Cycles: the cycles of each entry of packed bytes. -/
import Derived.Test.YtmogoaceangblaaUnpack
namespace Go.Proofs.Ytmogoaceangblaa
open Go.RowKit

/-- The last entry's cycles are 4 more; no entry: 4 alone. -/
def cycEnd (cyc : List Int) : List Int := if cyc.length = 0 then [4] else cyc.set (cyc.length - 1) (IntKind.i64.wrap (cyc.getD (cyc.length - 1) 0 + 4))
def CyclesTo (w : World) (r : Rd (List (List Int) × List Int × Nat)) (e : Ending) (w' : World) : Prop :=
  match r with
  | .inl er => e = .returned (.tuple #[.slice none 0 0, .int .i64 er]) ∧ Below w.heap.size w w'
  | .inr s => ∃ B c, e = .returned (.tuple #[.slice B (cycEnd s.2.1).length c, .int .i64 0]) ∧ IntsAt w' B (cycEnd s.2.1) ∧ Below w.heap.size w w'
end Go.Proofs.Ytmogoaceangblaa
