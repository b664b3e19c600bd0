/- The reference's reader: an entry that is taken. -/
import Derived.Test.YtjefhconahdbiaaRd3
namespace Go.Proofs.Ytjefhconahdbiaa
open Go.RowKit

theorem RdV.added {w w' : World} {r at_ g c : Nat} {sb vl vc vl2 vc2 : Value} {log : List (List Int)} {cyc x : List Int} {cost : Int} {hdrs : List Value} (h : RdV w r sb at_ log cyc vl vc 0)
    (h0 : w.ownsRow (r + 1) 61 1 vl log.length hdrs) (hr : ∀ (i : Nat) (v : Value), hdrs[i]? = some v → RowR w r vl vc log i v) (hl : log.length < 4000) (h14 : x.length = 14)
    (blk : w'.heap[r]? = some (.cells #[sb, .int .i64 at_, vl2, vc2, .int .i64 0] 133 (0, 0)))
    (o1 : w'.ownsRow (r + 1) 61 1 vl2 (log.length + 1) (hdrs ++ [.slice (some ⟨g, 0, none⟩) x.length c])) (o2 : w'.ownsRow (r + 1) 3 1 vc2 (cyc.length + 1) (icells cyc ++ [.int .i64 cost]))
    (a1 : ∀ q, vl2.ownBlock = some q → vl.ownBlock = some q ∨ (w.heap.size ≤ q ∧ q ≠ g)) (a2 : ∀ q, vc2.ownBlock = some q → vc.ownBlock = some q ∨ (w.heap.size ≤ q ∧ q ≠ g))
    (ap : ∀ q, vl2.ownBlock = some q → vc2.ownBlock ≠ some q) (hk : ∀ q, q < w.heap.size → q ≠ r → vl.ownBlock ≠ some q → vc.ownBlock ≠ some q → w'.heap[q]? = w.heap[q]?)
    (hg : w'.rangeAt g 0 (icells x)) (hgw : w.heap.size ≤ g) (hgs : g < w'.heap.size) : RdV w' r sb at_ (log ++ [x]) (cyc ++ [cost]) vl2 vc2 0 := by
  have hlen : hdrs.length = log.length := by have := h0.1; omega
  have hvl : ∀ q, vl.ownBlock = some q → q < w.heap.size := fun q hq => (h0.lt q hq).2
  have hvc : ∀ q, vc.ownBlock = some q → q < w.heap.size := fun q hq => (h.ownC.lt q hq).2
  have hrl := h.lt
  refine ⟨blk, ⟨_, by simpa using o1, fun i v hv => ?_⟩, by simpa [icells] using o2, ap, ?_, by simp [h.eqv], by simp; omega⟩
  · by_cases hi : i < hdrs.length
    · rw [List.getElem?_append_left hi] at hv
      obtain ⟨z, g', c', hz, e, hz2, n1, n2, hgr, hgl⟩ := hr i v hv
      refine ⟨z, g', c', by rw [List.getElem?_append_left (by omega)]; exact hz, e, fun j u hu => (World.cell?_of_block (hk g' hgl (by omega) n1 n2)).trans (hz2 j u hu), fun e2 => ?_, fun e2 => ?_, hgr, by omega⟩
      · rcases a1 g' e2 with h1 | h1
        · exact n1 h1
        · omega
      · rcases a2 g' e2 with h1 | h1
        · exact n2 h1
        · omega
    · rw [List.getElem?_append_right (by omega)] at hv
      have hi0 : i = hdrs.length := by
        have := (List.getElem?_eq_some_iff.1 hv).1
        simp at this; omega
      subst hi0
      simp at hv
      subst hv
      refine ⟨x, g, c, by rw [hlen, List.getElem?_append_right (Nat.le_refl _), Nat.sub_self]; rfl, rfl, hg, fun e2 => ?_, fun e2 => ?_, by omega, hgs⟩
      · rcases a1 g e2 with h1 | h1
        · have := hvl g h1; omega
        · exact h1.2 rfl
      · rcases a2 g e2 with h1 | h1
        · have := hvc g h1; omega
        · exact h1.2 rfl
  · intro z hz
    rcases List.mem_append.1 hz with h1 | h1
    · exact h.len z h1
    · simp at h1; rw [h1]; exact h14
end Go.Proofs.Ytjefhconahdbiaa
