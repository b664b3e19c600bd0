/- ChiplogPack: both Packs give the same bytes, Size their number. -/
import Derived.Test.YtmogoaceangblaaPack
import Derived.Test.YtmogoaceangblaaLogLaws
import Derived.Shelf.Bytes.SlSmallAll
namespace Go.Proofs.Ytmogoaceangblaa
open Go.RowKit

def BytesAt (w : World) (A : Option Addr) (L : List Int) : Prop := Lib.BytesIn w A L.length L
theorem BytesAt.below {w w' : World} {A : Option Addr} {L : List Int} (h : BytesAt w A L) (hb : Below w.heap.size w w') : BytesAt w' A L := by
  intro h0
  obtain ⟨b, o, e, hc⟩ := h h0
  exact ⟨b, o, e, fun i hi => (hb.cell (World.block_lt_of_cell? w _ (hc i hi))).trans (hc i hi)⟩
theorem bytesAt_own {w : World} {base : Nat} {v : Value} {L : List Int} (h : w.ownsRow base 5 1 v L.length (u8cells L)) : ∃ A c, v = .slice A L.length c ∧ BytesAt w A L := by
  rcases h.2 with ⟨rfl, h0⟩ | ⟨g, cap, cur, rfl, _⟩
  · exact ⟨none, 0, by rw [h0], fun h' => by omega⟩
  · refine ⟨_, cap, rfl, fun _ => ⟨g, 0, rfl, fun i hi => ?_⟩⟩
    rw [Nat.zero_add]
    refine own_at h (u8cells_at ?_)
    rw [List.getD, List.getElem?_eq_getElem hi]; rfl
def bytesFor (xs : List (List Int)) : List Int := if okLog xs then packed xs else []
def Bytesd (L : List Int) (er : Int) (w : World) (e : Ending) (w' : World) : Prop :=
  ∃ A c, e = .returned (.tuple #[.slice A L.length c, .int .i64 er]) ∧ BytesAt w' A L ∧ Below w.heap.size w w'
theorem bytesd_of {xs : List (List Int)} {w w' : World} {e : Ending} (h : Packs xs w e w') : Bytesd (bytesFor xs) (if okLog xs then 0 else 1) w e w' := by
  obtain ⟨v, rfl, h1, h2, hb⟩ := h
  unfold bytesFor
  cases hok : okLog xs with
  | true =>
    obtain ⟨A, c, rfl, hA⟩ := bytesAt_own (h1 hok)
    exact ⟨A, c, rfl, hA, hb⟩
  | false =>
    rw [h2 hok]
    exact ⟨none, 0, rfl, fun h => absurd h (Nat.lt_irrefl 0), hb⟩
end Go.Proofs.Ytmogoaceangblaa
