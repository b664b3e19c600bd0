/- The reference's reader in memory; its next byte; what it wants. -/
import Derived.Test.YtjefhconahdbiaaCycles
namespace Go.Proofs.Ytjefhconahdbiaa
open Go.RowKit

/-- A row of the reader's log: a block of its own. -/
def RowR (w : World) (r : Nat) (vl vc : Value) (log : List (List Int)) (i : Nat) (h : Value) : Prop :=
  ∃ z g c, log[i]? = some z ∧ h = .slice (some ⟨g, 0, none⟩) z.length c ∧ w.rangeAt g 0 (icells z) ∧ vl.ownBlock ≠ some g ∧ vc.ownBlock ≠ some g ∧ r < g ∧ g < w.heap.size
/-- The reader: its bytes, its place, entries (a block each), cycles, and the error. -/
structure RdV (w : World) (r : Nat) (sb : Value) (at_ : Nat) (log : List (List Int)) (cyc : List Int) (vl vc : Value) (e : Int) : Prop where
  blk : w.heap[r]? = some (.cells #[sb, .int .i64 at_, vl, vc, .int .i64 e] 133 (0, 0))
  out : ∃ hdrs : List Value, w.ownsRow (r + 1) 61 1 vl log.length hdrs ∧ ∀ (i : Nat) (h : Value), hdrs[i]? = some h → RowR w r vl vc log i h
  ownC : w.ownsRow (r + 1) 3 1 vc cyc.length (icells cyc)
  apart : ∀ q, vl.ownBlock = some q → vc.ownBlock ≠ some q
  len : ∀ z ∈ log, z.length = 14
  eqv : cyc.length = log.length
  le4 : log.length ≤ 4000
theorem RdV.lt {w : World} {r at_ : Nat} {sb vl vc : Value} {log : List (List Int)} {cyc : List Int} {e : Int} (h : RdV w r sb at_ log cyc vl vc e) : r < w.heap.size :=
  (Array.getElem?_eq_some_iff.1 h.blk).1
/-- Only the reader's own block has another place or error. -/
theorem RdV.turn {w w' : World} {r at_ at2 : Nat} {sb vl vc : Value} {log : List (List Int)} {cyc : List Int} {e e2 : Int} (h : RdV w r sb at_ log cyc vl vc e)
    (hb : ∀ q, r < q → q < w.heap.size → w'.heap[q]? = w.heap[q]?) (hs : w.heap.size ≤ w'.heap.size) (blk : w'.heap[r]? = some (.cells #[sb, .int .i64 at2, vl, vc, .int .i64 e2] 133 (0, 0))) : RdV w' r sb at2 log cyc vl vc e2 := by
  obtain ⟨hdrs, h0, hr⟩ := h.out
  have hl : ∀ q, vl.ownBlock = some q → w'.heap[q]? = w.heap[q]? := fun q hq => hb q (by have := (h0.lt q hq).1; omega) (h0.lt q hq).2
  refine ⟨blk, ⟨hdrs, ownsRow_same h0 hl, fun i v hv => ?_⟩, ownsRow_same h.ownC fun q hq => hb q (by have := (h.ownC.lt q hq).1; omega) (h.ownC.lt q hq).2, h.apart, h.len, h.eqv, h.le4⟩
  obtain ⟨z, g, c, hz, e, hg, n1, n2, hgr, hgl⟩ := hr i v hv
  exact ⟨z, g, c, hz, e, fun j u hu => (World.cell?_of_block (hb g hgr hgl)).trans (hg j u hu), n1, n2, hgr, Nat.lt_of_lt_of_le hgl hs⟩
theorem RdV.below {w w' : World} {r at_ : Nat} {sb vl vc : Value} {log : List (List Int)} {cyc : List Int} {e : Int} (h : RdV w r sb at_ log cyc vl vc e) (hb : Below w.heap.size w w') : RdV w' r sb at_ log cyc vl vc e :=
  h.turn (fun q _ hq => hb.block q hq) hb.size ((hb.block r h.lt).trans h.blk)
theorem RdV.setAt {w : World} {r at_ : Nat} {sb vl vc : Value} {log : List (List Int)} {cyc : List Int} {e : Int} (h : RdV w r sb at_ log cyc vl vc e) (n : Nat) : RdV (w.setCell ⟨r, 1, none⟩ (.int .i64 (n : Int))) r sb n log cyc vl vc e :=
  h.turn (fun q hq _ => heap_setCell_other w ⟨r, 1, none⟩ q _ (by simp; omega)) (by simp) (by simpa using heap_setCell_same w r 1 _ 133 (.int .i64 (n : Int)) h.blk)
theorem RdV.setE {w : World} {r at_ : Nat} {sb vl vc : Value} {log : List (List Int)} {cyc : List Int} {e : Int} (h : RdV w r sb at_ log cyc vl vc e) (n : Int) : RdV (w.setCell ⟨r, 4, none⟩ (.int .i64 n)) r sb at_ log cyc vl vc n :=
  h.turn (fun q hq _ => heap_setCell_other w ⟨r, 4, none⟩ q _ (by simp; omega)) (by simp) (by simpa using heap_setCell_same w r 4 _ 133 (.int .i64 n) h.blk)
def nextS (b : List Int) (at_ : Nat) (e : Int) : Int × Nat × Int :=
  if e = 0 then match b[at_]? with
    | some v => (v, at_ + 1, 0)
    | none => (0, at_, 12)
  else (0, at_, e)
def wantS (e : Int) (ok : Bool) : Int := if e = 0 then (if ok then 0 else 9) else e
set_option maxHeartbeats 2000000 in
theorem rwant_any (w : World) (r : Nat) (sb : Value) (at_ : Nat) (log : List (List Int)) (cyc : List Int) (vl vc : Value) (e : Int) (ok : Bool) (h : RdV w r sb at_ log cyc vl vc e) :
    Calls Try.prog 98 #[.pointer (some ⟨r, 0, none⟩), .bool ok] w fun en w' => en = .returned (.tuple #[]) ∧ RdV w' r sb at_ log cyc vl vc (wantS e ok) ∧ Only (fun q => q = r) w w' := by
  have hc4 := cell_of_cells (k := 4) h.blk rfl
  have hf4 := frozen_of_cells (k := 4) h.blk
  have HH := hid h
  clear h
  have hnot : ∀ (x : Bool) (w : World), (Op.unary .not (.bool x)).run Try.prog w = .ok (.bool (!x)) w := fun _ _ => rfl
  by_cases he : e = 0
  · subst he
    cases ok with
    | true =>
      go_enter Try.func98, Try.ntmps98
      go_wp2
      go_end0
      exact ⟨rfl, HH.out, Only.refl _ _⟩
    | false =>
      go_enter Try.func98, Try.ntmps98
      go_wp2
      go_end0
      exact ⟨rfl, HH.out.setE 9, (Only.refl _ _).set _ (Or.inl rfl)⟩
  · have hne : (e == 0) = false := by simpa using he
    have HW : Hid (wantS e ok = e) := hid (by unfold wantS; rw [if_neg he])
    clear he
    go_enter Try.func98, Try.ntmps98
    go_wp2
    go_end0
    rw [HW.out]
    exact ⟨rfl, HH.out, Only.refl _ _⟩
end Go.Proofs.Ytjefhconahdbiaa
