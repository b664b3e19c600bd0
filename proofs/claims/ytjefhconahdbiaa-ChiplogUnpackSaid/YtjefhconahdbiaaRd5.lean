/- The reference's reader: what holds while an entry is taken, in whatever order. -/
import Derived.Test.YtjefhconahdbiaaRd4
namespace Go.Proofs.Ytjefhconahdbiaa
open Go.RowKit

/-- Memory while an entry is taken: og: the row's copy (its block, its room); oh1: the header's cell; oh2: the cost's cell; ov: the list of rows with the new one. -/
structure AddS (w W : World) (r n : Nat) (vl vc : Value) (hdrs : List Value) (cyc x : List Int) (cost : Int) (og : Option (Nat × Nat)) (oh1 oh2 : Option Nat) (ov : Option Value) : Prop where
  only : Only (fun q => vl.ownBlock = some q ∨ vc.ownBlock = some q) w W
  rowC : W.ownsRow (r + 1) 3 1 vc cyc.length (icells cyc)
  rowL : ov = none → W.ownsRow (r + 1) 61 1 vl n hdrs
  copied : ∀ p, og = some p → w.heap.size ≤ p.1 ∧ p.1 < W.heap.size ∧ W.rangeAt p.1 0 (icells x)
  h1 : ∀ k, oh1 = some k → w.heap.size ≤ k ∧ ∃ p, og = some p ∧ W.cell? ⟨k, 0, none⟩ = some (.slice (some ⟨p.1, 0, none⟩) 14 p.2)
  h2 : ∀ k, oh2 = some k → w.heap.size ≤ k ∧ W.cell? ⟨k, 0, none⟩ = some (.int .i64 cost)
  v : ∀ u, ov = some u → ∃ p, og = some p ∧ W.ownsRow (r + 1) 61 1 u (n + 1) (hdrs ++ [.slice (some ⟨p.1, 0, none⟩) 14 p.2]) ∧ ∀ q, u.ownBlock = some q → vl.ownBlock = some q ∨ (w.heap.size ≤ q ∧ q ≠ p.1 ∧ q < W.heap.size)
section
variable {w W W' : World} {r n : Nat} {vl vc : Value} {hdrs : List Value} {cyc x : List Int} {cost : Int} {og : Option (Nat × Nat)} {oh1 oh2 : Option Nat} {ov : Option Value}
theorem AddS.start (h1 : w.ownsRow (r + 1) 61 1 vl n hdrs) (h2 : w.ownsRow (r + 1) 3 1 vc cyc.length (icells cyc)) : AddS w w r n vl vc hdrs cyc x cost none none none none :=
  ⟨Only.refl _ _, h2, fun _ => h1, by simp, by simp, by simp, by simp⟩
theorem AddS.below (h : AddS w W r n vl vc hdrs cyc x cost og oh1 oh2 ov) (hb : Below W.heap.size W W') : AddS w W' r n vl vc hdrs cyc x cost og oh1 oh2 ov := by
  have hk : ∀ {n : Nat} {e : TypeId} {v : Value} {xs : List Value}, W.ownsRow (r + 1) e 1 v n xs → W'.ownsRow (r + 1) e 1 v n xs := fun h => ownsRow_same h fun q hq => hb.block q (h.lt q hq).2
  have hc : ∀ {k : Nat} {v : Value}, W.cell? ⟨k, 0, none⟩ = some v → W'.cell? ⟨k, 0, none⟩ = some v := fun h => (hb.cell (World.block_lt_of_cell? W _ h)).trans h
  refine ⟨h.only.trans (Only.ofBelow (O := fun _ => False) hb) (fun _ hf => hf.elim), hk h.rowC, fun e => hk (h.rowL e), fun p e => ?_, fun k e => ?_, fun k e => ?_, fun u e => ?_⟩
  · obtain ⟨a, b, c⟩ := h.copied p e
    exact ⟨a, Nat.lt_of_lt_of_le b hb.size, rangeAt_below c hb⟩
  · obtain ⟨a, p, b, c⟩ := h.h1 k e
    exact ⟨a, p, b, hc c⟩
  · obtain ⟨a, c⟩ := h.h2 k e
    exact ⟨a, hc c⟩
  · obtain ⟨p, a, b, c⟩ := h.v u e
    exact ⟨p, a, hk b, fun q hq => (c q hq).imp id fun ⟨h1, h2, h3⟩ => ⟨h1, h2, Nat.lt_of_lt_of_le h3 hb.size⟩⟩
theorem AddS.drew (h : AddS w W r n vl vc hdrs cyc x cost og oh1 oh2 ov) : AddS w W.drew r n vl vc hdrs cyc x cost og oh1 oh2 ov := h.below (Below.refl _ _).drew
/-- The copy is made. -/
theorem AddS.setG {c g : Nat} (h : AddS w W r n vl vc hdrs cyc x cost none none oh2 none) (hb : Below W.heap.size W W') (hg : W.heap.size ≤ g) (hl : g < W'.heap.size) (hr : W'.rangeAt g 0 (icells x)) : AddS w W' r n vl vc hdrs cyc x cost (some (g, c)) none oh2 none := by
  have k := h.below hb
  refine ⟨k.only, k.rowC, k.rowL, fun p e => ?_, by simp, k.h2, by simp⟩
  cases e
  exact ⟨Nat.le_trans h.only.size hg, hl, hr⟩
theorem AddS.setH1 {p : Nat × Nat} {o : Obj} (h : AddS w W r n vl vc hdrs cyc x cost (some p) none oh2 none) (ho : (W.alloc o).cell? ⟨W.heap.size, 0, none⟩ = some (.slice (some ⟨p.1, 0, none⟩) 14 p.2)) : AddS w (W.alloc o) r n vl vc hdrs cyc x cost (some p) (some W.heap.size) oh2 none := by
  have k := h.below (Below.grow (Below.refl _ _) o)
  refine ⟨k.only, k.rowC, k.rowL, k.copied, fun q e => ?_, k.h2, by simp⟩
  cases e
  exact ⟨h.only.size, p, rfl, ho⟩
theorem AddS.setH2 {o : Obj} (h : AddS w W r n vl vc hdrs cyc x cost og oh1 none ov) (ho : (W.alloc o).cell? ⟨W.heap.size, 0, none⟩ = some (.int .i64 cost)) : AddS w (W.alloc o) r n vl vc hdrs cyc x cost og oh1 (some W.heap.size) ov := by
  have k := h.below (Below.grow (Below.refl _ _) o)
  refine ⟨k.only, k.rowC, k.rowL, k.copied, k.h1, fun q e => ?_, k.v⟩
  cases e
  exact ⟨h.only.size, ho⟩
theorem AddS.setV {p : Nat × Nat} {b cap : Nat} (h : AddS w W r n vl vc hdrs cyc x cost (some p) oh1 oh2 none) (hl : ∀ q, vl.ownBlock = some q → q < w.heap.size) (hap : ∀ q, vl.ownBlock = some q → vc.ownBlock ≠ some q)
    (ho : W'.ownsRow (r + 1) 61 1 (.slice (some ⟨b, 0, none⟩) (n + 1) cap) (n + 1) (hdrs ++ [.slice (some ⟨p.1, 0, none⟩) 14 p.2])) (hg : W.grownBy W' vl.ownBlock) (ha : vl.ownBlock = some b ∨ b = W.heap.size) (hb : b < W'.heap.size) :
    AddS w W' r n vl vc hdrs cyc x cost (some p) oh1 oh2 (some (.slice (some ⟨b, 0, none⟩) (n + 1) cap)) := by
  have hz := hg.size
  have hs := h.only.size
  have hc : ∀ {k : Nat} {v : Value}, w.heap.size ≤ k → W.cell? ⟨k, 0, none⟩ = some v → W'.cell? ⟨k, 0, none⟩ = some v := fun hk h => (hg.cell_far _ (World.block_lt_of_cell? W _ h) (fun e => by have := hl _ e.symm; simp at this; omega)).trans h
  refine ⟨h.only.grown hg (fun q hq => Or.inl (Or.inl hq)), ownsRow_same h.rowC fun q hq => hg.block q (h.rowC.lt q hq).2 (fun e => hap q e.symm hq), by simp, fun p' e => ?_, fun k e => ?_, fun k e => ?_, fun u e => ?_⟩
  · obtain ⟨a, b, c⟩ := h.copied p' e
    exact ⟨a, by omega, fun j v hj => (hg.cell_far _ b (fun e => by have := hl _ e.symm; simp at this; omega)).trans (c j v hj)⟩
  · obtain ⟨a, p', b, c⟩ := h.h1 k e
    exact ⟨a, p', b, hc a c⟩
  · obtain ⟨a, c⟩ := h.h2 k e
    exact ⟨a, hc a c⟩
  · cases e
    refine ⟨p, rfl, ho, fun q hq => ?_⟩
    simp only [Value.ownBlock, Option.some.injEq] at hq
    subst hq
    rcases ha with e1 | e1
    · exact Or.inl e1
    · have := h.copied p rfl
      exact Or.inr ⟨by omega, by omega, by omega⟩
/-- What the region's first reads tell. -/
theorem AddS.cell {k : Nat} {v : Value} (h : AddS w W r n vl vc hdrs cyc x cost og oh1 oh2 ov) (hr : r < w.heap.size) (h1 : vl.ownBlock ≠ some r) (h2 : vc.ownBlock ≠ some r) (hc : w.cell? ⟨r, k, none⟩ = some v) : W.cell? ⟨r, k, none⟩ = some v :=
  (h.only.cell hr (fun e => e.elim h1 h2)).trans hc
end
theorem radd_blk {w W Wd : World} {r n at_ : Nat} {sb vl vc : Value} {log : List (List Int)} {cyc x : List Int} {cost : Int} {hdrs : List Value} {og : Option (Nat × Nat)} {oh1 oh2 : Option Nat} {ov : Option Value} (h : RdV w r sb at_ log cyc vl vc 0)
    (hs : AddS w W r n vl vc hdrs cyc x cost og oh1 oh2 ov) (hg : W.grownBy Wd vc.ownBlock) : Wd.heap[r]? = some (.cells #[sb, .int .i64 at_, vl, vc, .int .i64 0] 133 (0, 0)) := by
  obtain ⟨hdrs', h0, _⟩ := h.out
  have hrl := h.lt
  have z1 := hs.only.size
  rw [hg.block r (by omega) (fun e => by have := h.ownC.lt r e.symm; omega), hs.only.block r hrl (fun e => e.elim (fun e => by have := h0.lt r e; omega) (fun e => by have := h.ownC.lt r e; omega))]
  exact h.blk
theorem range_cells {w : World} {b off : Nat} {z : List Int} (h : w.rangeAt b off (icells z)) : ∀ j, j < z.length → w.cell? ⟨b, off + j, none⟩ = some (.int .i64 (z.getD j 0)) := by
  intro j hj
  have := h j _ (icells_at (List.getElem?_eq_getElem hj))
  rw [this, List.getD, List.getElem?_eq_getElem hj]
  rfl
/-- What is left behind both stores. -/
theorem radd_end {w W Wd : World} {r at_ : Nat} {sb vl vc vl2 : Value} {log : List (List Int)} {cyc x : List Int} {cost : Int} {hdrs : List Value} {p : Nat × Nat} {oh1 oh2 : Option Nat} {b cap : Nat} (h : RdV w r sb at_ log cyc vl vc 0)
    (h0 : w.ownsRow (r + 1) 61 1 vl log.length hdrs) (hr : ∀ (i : Nat) (v : Value), hdrs[i]? = some v → RowR w r vl vc log i v) (hl : log.length < 4000) (h14 : x.length = 14)
    (hs : AddS w W r log.length vl vc hdrs cyc x cost (some p) oh1 oh2 (some vl2)) (o2 : Wd.ownsRow (r + 1) 3 1 (.slice (some ⟨b, 0, none⟩) (cyc.length + 1) cap) (cyc.length + 1) (icells cyc ++ [.int .i64 cost])) (hg : W.grownBy Wd vc.ownBlock) (ha : vc.ownBlock = some b ∨ b = W.heap.size) :
    RdV ((Wd.setCell ⟨r, 2, none⟩ vl2).setCell ⟨r, 3, none⟩ (.slice (some ⟨b, 0, none⟩) (cyc.length + 1) cap)) r sb at_ (log ++ [x]) (cyc ++ [cost]) vl2 (.slice (some ⟨b, 0, none⟩) (cyc.length + 1) cap) 0 ∧
      Only (Own r vl vc) w ((Wd.setCell ⟨r, 2, none⟩ vl2).setCell ⟨r, 3, none⟩ (.slice (some ⟨b, 0, none⟩) (cyc.length + 1) cap)) ∧ (∀ q, Own r vl2 (.slice (some ⟨b, 0, none⟩) (cyc.length + 1) cap) q → Own r vl vc q ∨ w.heap.size ≤ q) := by
  have hrl := h.lt
  have z1 := hs.only.size
  have z2 := hg.size
  have hvl : ∀ q, vl.ownBlock = some q → r < q ∧ q < w.heap.size := fun q hq => by have := h0.lt q hq; omega
  have hvc : ∀ q, vc.ownBlock = some q → r < q ∧ q < w.heap.size := fun q hq => by have := h.ownC.lt q hq; omega
  obtain ⟨p', e, ov, av⟩ := hs.v vl2 rfl
  cases e
  obtain ⟨pg1, pg2, pg3⟩ := hs.copied p rfl
  have a2 : ∀ q, (Value.slice (some ⟨b, 0, none⟩) (cyc.length + 1) cap).ownBlock = some q → vc.ownBlock = some q ∨ q = W.heap.size := fun q hq => by
    simp only [Value.ownBlock, Option.some.injEq] at hq
    subst hq
    exact ha
  generalize (Value.slice (some ⟨b, 0, none⟩) (cyc.length + 1) cap) = vc2 at *
  have hk : ∀ q, q < w.heap.size → vl.ownBlock ≠ some q → vc.ownBlock ≠ some q → Wd.heap[q]? = w.heap[q]? := fun q hq n1 n2 => by
    rw [hg.block q (by omega) (fun e => n2 e.symm), hs.only.block q hq (fun e => e.elim n1 n2)]
  have hcd : Wd.heap[r]? = some (.cells #[sb, .int .i64 at_, vl, vc, .int .i64 0] 133 (0, 0)) := by
    rw [hk r hrl (fun e => by have := hvl r e; omega) (fun e => by have := hvc r e; omega)]; exact h.blk
  have hl' : ∀ q, vl2.ownBlock = some q → r < q ∧ q < Wd.heap.size := fun q hq => by have := ov.lt q hq; omega
  have hc' : ∀ q, vc2.ownBlock = some q → r < q ∧ q < Wd.heap.size := fun q hq => by have := o2.lt q hq; omega
  have hap : ∀ q, vl2.ownBlock = some q → vc2.ownBlock ≠ some q := fun q hq he => by
    rcases av q hq with e1 | e1
    · rcases a2 q he with e2 | e2
      · exact h.apart q e1 e2
      · have := hvl q e1; omega
    · rcases a2 q he with e2 | e2
      · have := hvc q e2; omega
      · omega
  have hs1 := heap_setCell_same Wd r 2 _ 133 vl2 hcd
  have hs2 := heap_setCell_same (Wd.setCell ⟨r, 2, none⟩ vl2) r 3 _ 133 vc2 hs1
  have hother : ∀ q, q ≠ r → ((Wd.setCell ⟨r, 2, none⟩ vl2).setCell ⟨r, 3, none⟩ vc2).heap[q]? = Wd.heap[q]? := fun q hq => by
    rw [heap_setCell_other _ ⟨r, 3, none⟩ q _ hq, heap_setCell_other _ ⟨r, 2, none⟩ q _ hq]
  have hsz : ((Wd.setCell ⟨r, 2, none⟩ vl2).setCell ⟨r, 3, none⟩ vc2).heap.size = Wd.heap.size := by simp
  have ovd : Wd.ownsRow (r + 1) 61 1 vl2 (log.length + 1) (hdrs ++ [.slice (some ⟨p.1, 0, none⟩) 14 p.2]) := ownsRow_same ov fun q hq => hg.block q (ov.lt q hq).2 (fun e => by
    rcases av q hq with e1 | e1
    · exact h.apart q e1 e.symm
    · have := hvc q e.symm; omega)
  refine ⟨RdV.added (g := p.1) (c := p.2) (hdrs := hdrs) h h0 hr hl h14 (by simpa using hs2) ?_ (ownsRow_same o2 fun q hq => hother q (by have := hc' q hq; omega)) (fun q hq => ?_) (fun q hq => ?_) hap (fun q hq hqr n1 n2 => (hother q hqr).trans (hk q hq n1 n2)) ?_ pg1 (by rw [hsz]; omega), ?_, ?_⟩
  · have := ownsRow_same (w' := (Wd.setCell ⟨r, 2, none⟩ vl2).setCell ⟨r, 3, none⟩ vc2) ovd fun q hq => hother q (by have := hl' q hq; omega)
    rw [h14]
    exact this
  · exact (av q hq).imp id fun ⟨a, b, _⟩ => ⟨a, b⟩
  · exact (a2 q hq).imp id fun e => (⟨by omega, by omega⟩ : w.heap.size ≤ q ∧ q ≠ p.1)
  · intro j v hj
    have h1 := pg3 j v hj
    rw [World.cell?_of_block (hother p.1 (by omega)), World.cell?_of_block (hg.block p.1 pg2 (fun e => by have := hvc _ e.symm; omega))]
    exact h1
  · have h1 : Only (Own r vl vc) w Wd := (hs.only.mono (O' := Own r vl vc) (fun q _ hq => hq.elim (fun e => Or.inr (Or.inl e)) (fun e => Or.inr (Or.inr e)))).grown hg (fun q hq => Or.inl (Or.inr (Or.inr hq)))
    exact (h1.set _ (Or.inl (Or.inl rfl))).set _ (Or.inl (Or.inl rfl))
  · intro q hq
    rcases hq with hq | hq | hq
    · exact Or.inl (Or.inl hq)
    · rcases av q hq with e | e
      · exact Or.inl (Or.inr (Or.inl e))
      · exact Or.inr e.1
    · rcases a2 q hq with e | e
      · exact Or.inl (Or.inr (Or.inr e))
      · exact Or.inr (by omega)
end Go.Proofs.Ytjefhconahdbiaa
