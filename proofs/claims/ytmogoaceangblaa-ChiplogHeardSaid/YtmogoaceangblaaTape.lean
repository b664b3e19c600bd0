/- The tape of chiplog.read in memory: its bytes, its place, the entries and cycles so far; what changes beside it. -/
import Derived.Test.YtmogoaceangblaaReadSpec
import Derived.Test.YtmogoaceangblaaPackLaw
namespace Go.Proofs.Ytmogoaceangblaa
open Go.RowKit

/-- Only some of the blocks that there were have changed. -/
structure Only (O : Nat → Prop) (w w' : World) : Prop where
  os : w'.os = w.os
  tape : w'.tape = w.tape
  output : w'.output = w.output
  size : w.heap.size ≤ w'.heap.size
  block : ∀ q, q < w.heap.size → ¬ O q → w'.heap[q]? = w.heap[q]?
theorem Only.refl (O : Nat → Prop) (w : World) : Only O w w := ⟨rfl, rfl, rfl, Nat.le_refl _, fun _ _ _ => rfl⟩
theorem Only.trans {O O' : Nat → Prop} {w w1 w2 : World} (h : Only O w w1) (k : Only O' w1 w2) (ho : ∀ q, O' q → O q ∨ w.heap.size ≤ q) : Only O w w2 :=
  ⟨k.os.trans h.os, k.tape.trans h.tape, k.output.trans h.output, Nat.le_trans h.size k.size, fun q hq hn =>
    (k.block q (Nat.lt_of_lt_of_le hq h.size) (fun h' => by rcases ho q h' with h1 | h1; exact hn h1; omega)).trans (h.block q hq hn)⟩
theorem Only.mono {O O' : Nat → Prop} {w w' : World} (h : Only O w w') (ho : ∀ q, q < w.heap.size → O q → O' q) : Only O' w w' :=
  ⟨h.os, h.tape, h.output, h.size, fun q hq hn => h.block q hq (fun h' => hn (ho q hq h'))⟩
theorem Only.below {B : Nat} {O : Nat → Prop} {w0 w w' : World} (hb : Below B w0 w) (h : Only O w w') (ho : ∀ q, O q → B ≤ q) (hB : B ≤ w.heap.size) : Below B w0 w' :=
  ⟨h.os.trans hb.os, h.tape.trans hb.tape, h.output.trans hb.output, Nat.le_trans hb.size h.size, fun k hk =>
    (h.block k (by omega) (fun h' => by have := ho k h'; omega)).trans (hb.block k hk)⟩
theorem Only.cell {O : Nat → Prop} {w w' : World} (h : Only O w w') {b o : Nat} (hb : b < w.heap.size) (hn : ¬ O b) : w'.cell? ⟨b, o, none⟩ = w.cell? ⟨b, o, none⟩ :=
  World.cell?_of_block (h.block b hb hn)
theorem Only.drewN {O : Nat → Prop} {w w' : World} (h : Only O w w') (n : Nat) : Only O w (w'.drewN n) := ⟨h.os, h.tape, h.output, h.size, h.block⟩
theorem Only.alloc {O : Nat → Prop} {w w' : World} (h : Only O w w') (o : Obj) : Only O w (w'.alloc o) := by
  have hb : Below w'.heap.size w' (w'.alloc o) := Below.grow (Below.refl _ _) o
  exact ⟨hb.os.trans h.os, hb.tape.trans h.tape, hb.output.trans h.output, Nat.le_trans h.size hb.size, fun q hq hn => (hb.block q (Nat.lt_of_lt_of_le hq h.size)).trans (h.block q hq hn)⟩
theorem Only.set {O : Nat → Prop} {w w' : World} (h : Only O w w') {b o : Nat} (v : Value) (hO : O b ∨ w.heap.size ≤ b) : Only O w (w'.setCell ⟨b, o, none⟩ v) :=
  ⟨h.os, h.tape, h.output, by simp; exact h.size, fun q hq hn => by
    rw [heap_setCell_other w' ⟨b, o, none⟩ q v (fun e => by rcases hO with h1 | h1; exact hn (e ▸ h1); simp at e; omega)]
    exact h.block q hq hn⟩
theorem Only.ofBelow {O : Nat → Prop} {w w' : World} (h : Below w.heap.size w w') : Only O w w' := ⟨h.os, h.tape, h.output, h.size, fun q hq _ => h.block q hq⟩
theorem Only.grown {O : Nat → Prop} {w w1 w2 : World} {row : Option Nat} (h : Only O w w1) (hg : w1.grownBy w2 row) (hO : ∀ q, row = some q → O q ∨ w.heap.size ≤ q) : Only O w w2 :=
  ⟨hg.os.trans h.os, hg.tape.trans h.tape, hg.output.trans h.output, Nat.le_trans h.size hg.size, fun q hq hn => by
    rw [hg.block q (Nat.lt_of_lt_of_le hq h.size) (fun e => by rcases hO q e.symm with h1 | h1; exact hn h1; omega)]
    exact h.block q hq hn⟩
theorem cell_of_cells {w : World} {t k : Nat} {cs : Array Value} {ty : TypeId} {fr : Nat × Nat} {v : Value} (h : w.heap[t]? = some (.cells cs ty fr)) (hv : cs[k]? = some v) : w.cell? ⟨t, k, none⟩ = some v := by
  unfold World.cell?; simp only [h]; simpa using hv
theorem frozen_of_cells {w : World} {t k : Nat} {cs : Array Value} {ty : TypeId} (h : w.heap[t]? = some (.cells cs ty (0, 0))) : w.frozen? ⟨t, k, none⟩ = false := by
  unfold World.frozen?; simp only [h]; simp

def flat (log : List (List Int)) : List Value := log.flatMap icells
def Own (t : Nat) (vl vc : Value) (q : Nat) : Prop := q = t ∨ vl.ownBlock = some q ∨ vc.ownBlock = some q
structure TapeV (w : World) (t : Nat) (sb : Value) (at_ : Nat) (log : List (List Int)) (cyc : List Int) (vl vc : Value) : Prop where
  blk : w.heap[t]? = some (.cells #[sb, .int .i64 at_, vl, vc] 49 (0, 0))
  ownL : w.ownsRow (t + 1) 43 14 vl log.length (flat log)
  ownC : w.ownsRow (t + 1) 3 1 vc cyc.length (icells cyc)
  apart : ∀ q, vl.ownBlock = some q → vc.ownBlock ≠ some q
  len : ∀ z ∈ log, z.length = 14
  eqv : cyc.length = log.length
  le4 : log.length ≤ 4000
theorem ownsRow_same {w w' : World} {base : Nat} {e : TypeId} {sz n : Nat} {v : Value} {xs : List Value} (h : w.ownsRow base e sz v n xs) (hb : ∀ q, v.ownBlock = some q → w'.heap[q]? = w.heap[q]?) : w'.ownsRow base e sz v n xs := by
  refine ⟨h.1, ?_⟩
  rcases h.2 with h' | ⟨g, cap, cur, rfl, h2, h3, h4⟩
  · exact Or.inl h'
  · exact Or.inr ⟨g, cap, cur, rfl, h2, by rw [hb g rfl]; exact h3, h4⟩
theorem TapeV.lt {w : World} {t at_ : Nat} {sb vl vc : Value} {log : List (List Int)} {cyc : List Int} (h : TapeV w t sb at_ log cyc vl vc) : t < w.heap.size :=
  (Array.getElem?_eq_some_iff.1 h.blk).1
theorem TapeV.own_ge {w : World} {t at_ : Nat} {sb vl vc : Value} {log : List (List Int)} {cyc : List Int} (h : TapeV w t sb at_ log cyc vl vc) : ∀ q, Own t vl vc q → t ≤ q ∧ q < w.heap.size := by
  intro q hq
  rcases hq with rfl | hq | hq
  · exact ⟨Nat.le_refl _, h.lt⟩
  · have := h.ownL.lt q hq; omega
  · have := h.ownC.lt q hq; omega
/-- What the tape owns is as it was. -/
theorem TapeV.same {w w' : World} {t at_ : Nat} {sb vl vc : Value} {log : List (List Int)} {cyc : List Int} (h : TapeV w t sb at_ log cyc vl vc) (hb : ∀ q, Own t vl vc q → w'.heap[q]? = w.heap[q]?) : TapeV w' t sb at_ log cyc vl vc :=
  ⟨by rw [hb t (Or.inl rfl)]; exact h.blk, ownsRow_same h.ownL fun q hq => hb q (Or.inr (Or.inl hq)), ownsRow_same h.ownC fun q hq => hb q (Or.inr (Or.inr hq)), h.apart, h.len, h.eqv, h.le4⟩
theorem TapeV.below {w w' : World} {t at_ : Nat} {sb vl vc : Value} {log : List (List Int)} {cyc : List Int} (h : TapeV w t sb at_ log cyc vl vc) (hb : Below w.heap.size w w') : TapeV w' t sb at_ log cyc vl vc :=
  h.same fun q hq => hb.block q (h.own_ge q hq).2
theorem TapeV.only {w w' : World} {O : Nat → Prop} {t at_ : Nat} {sb vl vc : Value} {log : List (List Int)} {cyc : List Int} (h : TapeV w t sb at_ log cyc vl vc) (hb : Only O w w') (hO : ∀ q, Own t vl vc q → ¬ O q) : TapeV w' t sb at_ log cyc vl vc :=
  h.same fun q hq => hb.block q (h.own_ge q hq).2 (hO q hq)
theorem TapeV.setAt {w : World} {t at_ : Nat} {sb vl vc : Value} {log : List (List Int)} {cyc : List Int} (h : TapeV w t sb at_ log cyc vl vc) (n : Nat) : TapeV (w.setCell ⟨t, 1, none⟩ (.int .i64 (n : Int))) t sb n log cyc vl vc := by
  have h1 := heap_setCell_same w t 1 _ 49 (.int .i64 (n : Int)) h.blk
  refine ⟨by simpa using h1, ownsRow_same h.ownL fun q hq => ?_, ownsRow_same h.ownC fun q hq => ?_, h.apart, h.len, h.eqv, h.le4⟩
  · exact heap_setCell_other w ⟨t, 1, none⟩ q _ (by have := h.ownL.lt q hq; simp; omega)
  · exact heap_setCell_other w ⟨t, 1, none⟩ q _ (by have := h.ownC.lt q hq; simp; omega)

def errno (n : Int) : List PanicEntry := [{ v := .iface 25 (.int .i64 n), recovered := false }]
theorem bytesAt_cell {w : World} {A : Option Addr} {L : List Int} (h : BytesAt w A L) {i : Nat} {v : Int} (hv : L[i]? = some v) : ∃ b o, A = some ⟨b, o, none⟩ ∧ w.cell? ⟨b, o + i, none⟩ = some (.int .u8 v) := by
  have hi := (List.getElem?_eq_some_iff.1 hv).1
  obtain ⟨b, o, e, hc⟩ := h (by omega)
  refine ⟨b, o, e, ?_⟩
  have := hc i hi
  rwa [List.getD, hv] at this

set_option maxHeartbeats 1000000 in
theorem tnext_ok (w : World) (t : Nat) (A : Option Addr) (c : Nat) (b : List Int) (at_ : Nat) (log : List (List Int)) (cyc : List Int) (vl vc : Value) (v : Int)
    (h : TapeV w t (.slice A b.length c) at_ log cyc vl vc) (hA : BytesAt w A b) (hsep : ∀ p o, A = some ⟨p, o, none⟩ → p < t) (hv : b[at_]? = some v) (hr : 0 ≤ v ∧ v < 256) (hbl : b.length ≤ 400000) :
    Calls Try.prog 26 #[.pointer (some ⟨t, 0, none⟩)] w fun e w' => e = .returned (.int .i64 v) ∧ TapeV w' t (.slice A b.length c) (at_ + 1) log cyc vl vc ∧ Only (Own t vl vc) w w' := by
  obtain ⟨p, o, rfl, hcv⟩ := bytesAt_cell hA hv
  have hpt : p < t := hsep p o rfl
  have hlt := (List.getElem?_eq_some_iff.1 hv).1
  have hc0 := cell_of_cells (k := 0) h.blk rfl
  have hc1 := cell_of_cells (k := 1) h.blk rfl
  have hf1 := frozen_of_cells (k := 1) h.blk
  have hne : ((at_ : Int) == (b.length : Int)) = false := by rw [beq_eq_false_iff_ne]; omega
  have ha0 : (0 : Int) ≤ (at_ : Int) := by omega
  have hab : (at_ : Int) < (b.length : Int) := by omega
  have HH := hid h; have HA := hid hA; have HV := hid hv; have HR := hid hr
  clear h hA hv hr hsep
  have hnep : ¬ p = t := by omega
  have hw1 : IntKind.i64.wrap ((at_ : Int) + 1) = (at_ : Int) + 1 := by rw [IntKind.wrap_i64]; omega
  have hw2 : IntKind.i64.wrap ((at_ : Int) + 1 - 1) = (at_ : Int) := by rw [IntKind.wrap_i64]; omega
  have hw3 : IntKind.i64.wrap v = v := by have := HR.out; rw [IntKind.wrap_i64]; omega
  go_enter Try.func26, Try.ntmps26
  go_wp2_with fail
  go_quiet (fail)
  go_wp2
  have hca : ((at_ : Int) + 1) = ((at_ + 1 : Nat) : Int) := by omega
  obtain ⟨w2, hw⟩ : ∃ w2, w2 = ((w.drewN nq).setCell ⟨t, 1, none⟩ (.int .i64 ((at_ : Int) + 1))) := ⟨_, rfl⟩
  have HT2 : Hid (TapeV w2 t (.slice (some ⟨p, o, none⟩) b.length c) (at_ + 1) log cyc vl vc) := hid (by
    rw [hw, hca]; exact (HH.out.below (below_drewN (Below.refl _ _) nq)).setAt (at_ + 1))
  have HO2 : Hid (Only (Own t vl vc) w w2) := hid (by rw [hw]; exact ((Only.refl _ w).drewN nq).set _ (Or.inl (Or.inl rfl)))
  have hcv2 : w2.cell? ⟨p, o + at_, none⟩ = some (.int .u8 v) := (HO2.out.cell (World.block_lt_of_cell? w _ hcv) (fun h => by have := (HH.out.own_ge p h).1; omega)).trans hcv
  rw [← hw]
  clear hw hc0 hc1 hf1 hcv hca
  have hc0 := cell_of_cells (k := 0) HT2.out.blk rfl
  have hc1 := cell_of_cells (k := 1) HT2.out.blk rfl
  go_quiet (fail)
  go_wp2
  go_ret
  exact ⟨rfl, HT2.out.below (below_drewN (Below.refl _ _) _), HO2.out.drewN _⟩

set_option maxHeartbeats 1000000 in
theorem tnext_end (w : World) (t : Nat) (A : Option Addr) (c : Nat) (b : List Int) (log : List (List Int)) (cyc : List Int) (vl vc : Value)
    (h : TapeV w t (.slice A b.length c) b.length log cyc vl vc) :
    Calls Try.prog 26 #[.pointer (some ⟨t, 0, none⟩)] w fun e w' => e = .panicked (errno 12) ∧ Only (Own t vl vc) w w' := by
  have hc0 := cell_of_cells (k := 0) h.blk rfl
  have hc1 := cell_of_cells (k := 1) h.blk rfl
  have hne : ((b.length : Int) == (b.length : Int)) = true := by simp
  have HH := hid h
  clear h
  go_enter Try.func26, Try.ntmps26
  go_wp2_with fail
  go_quiet (fail)
  go_wp2
  exact ⟨rfl, rfl, (Only.refl _ w).drewN _⟩
end Go.Proofs.Ytmogoaceangblaa
