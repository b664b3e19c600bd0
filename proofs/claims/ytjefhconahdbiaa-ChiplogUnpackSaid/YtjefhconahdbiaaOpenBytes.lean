/- Bytes handed in, as a list. -/
import Derived.Test.YtjefhconahdbiaaPackLaw
import Derived.ChangeSlices
namespace Go.Proofs.Ytjefhconahdbiaa
open Go.RowKit

theorem cells5 : Try.prog.cellsOf 5 = 1 := by kernel_rfl
open Go.ChangeShapes Go.WideShapes Go.ChangeAt in
set_option maxRecDepth 100000 in
theorem open_bytes {H : Type} {enc : TypeId × Value → H} (W : World) (base : Nat) (v : Value) (d : DataW H) (p : List MemPlace)
    (ho : Value.okWide Try.prog W .any base 55 v) (h : DataW.Trod enc Try.prog W 0 (fun _ => true) true 55 v d p) :
    ∃ A L c, v = .slice A (List.length L) c ∧ BytesAt W A L ∧ (A = none → c = 0) ∧ (∀ x ∈ L, 0 ≤ x ∧ x < 256) := by
  obtain ⟨A, len, cap, rfl⟩ := okWide_slice Try.underlying55 ho
  obtain ⟨fuel, hf⟩ := h
  rcases open_ints Try.underlying55 Try.underlying5 cells5 hf with ⟨hcs, _⟩ | ⟨a, l, c, zs, hcs, _, hl, hm, hzl, _, hx, hwf⟩
  · simp [Value.cells] at hcs
    obtain ⟨rfl, rfl, rfl⟩ := hcs
    exact ⟨none, [], 0, rfl, fun h => absurd h (by simp), fun _ => rfl, by simp⟩
  · simp [Value.cells] at hcs
    obtain ⟨rfl, rfl, rfl⟩ := hcs
    simp only [if_true] at hzl
    have hlen : (zs.take len).length = len := by rw [List.length_take]; omega
    refine ⟨some a, zs.take len, cap, by rw [hlen], fun h0 => ?_, (fun e => by cases e), fun x hxm => ?_⟩
    · rw [hlen] at h0
      have hs0 : a.spot = none := by simpa [Addr.add] using cell_spot (hx 0 (by omega))
      refine ⟨a.block, a.off, congrArg some (add_plain a hs0), fun i hi => ?_⟩
      rw [hlen] at hi
      have h1 := hx i (by omega)
      rw [add_at _ hs0] at h1
      rw [h1, List.getD, List.getD, List.getElem?_take, if_pos hi]
    · have := hwf x (List.mem_of_mem_take hxm)
      simp [Lit.wf, IntKind.min, IntKind.max, IntKind.signed, IntKind.bits] at this
      omega
open Go.ChangeShapes Go.WideShapes Go.ChangeAt in
set_option maxRecDepth 100000 in
theorem okWide_block {W : World} {base : Nat} {A : Option Addr} {n c : Nat} (ho : Value.okWide Try.prog W .any base 55 (.slice A n c)) : ∀ p o, A = some ⟨p, o, none⟩ → p < W.heap.size := by
  rintro p o rfl
  simp only [Value.okWide, Try.underlying55, Cell.okWide, Cell.ok] at ho
  obtain ⟨_, _, _, _, row, cells, hs, _⟩ := ho
  simp only [World.shape?] at hs
  rcases Nat.lt_or_ge p W.heap.size with h | h
  · exact h
  · rw [Array.getElem?_eq_none h] at hs
    simp at hs
end Go.Proofs.Ytjefhconahdbiaa
