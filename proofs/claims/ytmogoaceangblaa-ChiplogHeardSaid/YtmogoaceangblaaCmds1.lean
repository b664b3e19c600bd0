/- chiplog's tape: an entry taken or too many; a register's new value written. -/
import Derived.Test.YtmogoaceangblaaPut
namespace Go.Proofs.Ytmogoaceangblaa
open Go.RowKit

/-- The bytes that a tape reads, and where they lie. -/
structure Reads (w : World) (t : Nat) (A : Option Addr) (b : List Int) : Prop where
  bytes : BytesAt w A b
  sep : ∀ p o, A = some ⟨p, o, none⟩ → p < t
  rng : ∀ v ∈ b, 0 ≤ v ∧ v < 256
  le : b.length ≤ 400000
theorem Reads.only {w w' : World} {O : Nat → Prop} {t : Nat} {A : Option Addr} {b : List Int} (h : Reads w t A b) (k : Only O w w') (hO : ∀ q, O q → t ≤ q) : Reads w' t A b :=
  ⟨fun h0 => by
    obtain ⟨p, o, e, hc⟩ := h.bytes h0
    refine ⟨p, o, e, fun i hi => ?_⟩
    rw [k.cell (World.block_lt_of_cell? w _ (hc i hi)) (fun hp => by have h1 : t ≤ p := hO p hp; have h2 : p < t := h.sep p o e; omega)]
    exact hc i hi, h.sep, h.rng, h.le⟩
theorem own_le {t : Nat} {vl vc : Value} {w : World} {at_ : Nat} {sb : Value} {log : List (List Int)} {cyc : List Int} (h : TapeV w t sb at_ log cyc vl vc) : ∀ q, Own t vl vc q → t ≤ q := fun q hq => (h.own_ge q hq).1
/-- What a command leaves: an error, or a tape further on. -/
def TapeTo (w : World) (t : Nat) (sb vl vc : Value) (r : Rd St) (e : Ending) (w' : World) : Prop :=
  match r with
  | .inl er => e = .panicked (errno er) ∧ Only (Own t vl vc) w w'
  | .inr s => e = .returned (.tuple #[]) ∧ ∃ vl' vc', TapeV w' t sb s.1 s.2.1 s.2.2 vl' vc' ∧ Only (Own t vl vc) w w' ∧ (∀ q, Own t vl' vc' q → Own t vl vc q ∨ w.heap.size ≤ q)
def atS (at_ : Nat) (r : Rd (List (List Int) × List Int)) : Rd St :=
  match r with
  | .inl e => .inl e
  | .inr p => .inr (at_, p.1, p.2)
def putS (at_ : Nat) (log : List (List Int)) (cyc : List Int) (x : List Int) (c : Int) : Rd St :=
  match putL log cyc x c with
  | .inl e => .inl e
  | .inr (l, k) => .inr (at_, l, k)
theorem tput_any (w : World) (t : Nat) (sb : Value) (at_ : Nat) (log : List (List Int)) (cyc : List Int) (vl vc : Value) (x : List Int) (cost : Int)
    (h : TapeV w t sb at_ log cyc vl vc) (hx : x.length = 14) :
    Calls Try.prog 40 #[.pointer (some ⟨t, 0, none⟩), .agg (icells x).toArray, .int .i64 cost] w (TapeTo w t sb vl vc (putS at_ log cyc x cost)) := by
  by_cases hl : log.length = 4000
  · have e : putS at_ log cyc x cost = .inl 4 := by unfold putS putL; rw [if_pos hl]
    rw [e]
    exact tput_full w t sb at_ log cyc vl vc x cost h hl
  · have e : putS at_ log cyc x cost = .inr (at_, log ++ [x], cyc ++ [cost]) := by unfold putS putL; rw [if_neg hl]
    rw [e]
    exact tput_ok w t sb at_ log cyc vl vc x cost h (by have := h.le4; omega) hx
def TapeRow (w : World) (bx : Nat) (x : List Int) : Prop := w.heap[bx]? = some (.cells (icells x).toArray 43 (0, 0))
theorem TapeRow.set {w : World} {bx r : Nat} {x : List Int} {v : Int} (h : TapeRow w bx x) : TapeRow (w.setCell ⟨bx, r, none⟩ (.int .i64 v)) bx (x.set r v) := by
  have h1 := heap_setCell_same w bx r _ 43 (.int .i64 v) h
  unfold TapeRow
  rw [h1]
  simp [icells, List.map_set]
theorem TapeRow.only {w w' : World} {O : Nat → Prop} {bx : Nat} {x : List Int} (h : TapeRow w bx x) (k : Only O w w') (hO : ¬ O bx) : TapeRow w' bx x := by
  unfold TapeRow
  rw [k.block bx (Array.getElem?_eq_some_iff.1 h).1 hO]; exact h
def Wrote (w : World) (t : Nat) (sb vl vc : Value) (bx : Nat) (log : List (List Int)) (cyc : List Int) (r : Rd (Nat × List Int)) (e : Ending) (w' : World) : Prop :=
  match r with
  | .inl er => e = .panicked (errno er) ∧ Only (fun q => Own t vl vc q ∨ q = bx) w w'
  | .inr s => e = .returned (.tuple #[]) ∧ TapeV w' t sb s.1 log cyc vl vc ∧ TapeRow w' bx s.2 ∧ Only (fun q => Own t vl vc q ∨ q = bx) w w'

set_option maxHeartbeats 2000000 in
theorem twrite_any (w : World) (t : Nat) (A : Option Addr) (c : Nat) (b : List Int) (at_ : Nat) (log : List (List Int)) (cyc : List Int) (vl vc : Value) (bx : Nat) (x : List Int) (r : Nat)
    (h : TapeV w t (.slice A b.length c) at_ log cyc vl vc) (hR : Reads w t A b) (hat : at_ ≤ b.length) (hx : TapeRow w bx x) (hxl : x.length = 14) (hr : r < 14) (hbx : ¬ Own t vl vc bx) :
    Calls Try.prog 41 #[.pointer (some ⟨t, 0, none⟩), .pointer (some ⟨bx, 0, none⟩), .int .i64 r] w (Wrote w t (.slice A b.length c) vl vc bx log cyc (writeL b at_ x r)) := by
  have HH := hid h; have HR := hid hR; have HX := hid hx; have HBX := hid hbx; have HXL := hid hxl
  clear h hR hx hbx hxl
  have hr0 : (0 : Int) ≤ (r : Int) := by omega
  have hr4 : (r : Int) < 14 := by omega
  cases hv : b[at_]? with
  | none =>
    have hea : at_ = b.length := by have := List.getElem?_eq_none_iff.1 hv; omega
    subst hea
    have HV := hid hv; clear hv
    go_enter Try.func41, Try.ntmps41
    go_wp2_with fail
    refine (tnext_end _ t A c b log cyc vl vc HH.out).mono ?_
    rintro e w1 ⟨rfl, ho⟩
    refine ⟨rfl, ?_⟩
    unfold Wrote writeL
    rw [HV.out]
    exact ⟨rfl, ho.mono fun q _ hq => Or.inl hq⟩
  | some v =>
    have hvr := HR.out.rng v (List.mem_of_getElem? hv)
    have HV := hid hv; clear hv
    obtain ⟨y, hy⟩ : ∃ y, x[r]? = some y := ⟨_, List.getElem?_eq_getElem (by have := HXL.out; omega)⟩
    have HY := hid hy; clear hy
    have hlt := HH.out.lt
    go_enter Try.func41, Try.ntmps41
    go_wp2_with fail
    refine (tnext_ok _ t A c b at_ log cyc vl vc v HH.out HR.out.bytes HR.out.sep HV.out hvr HR.out.le).mono ?_
    rintro e w1 ⟨rfl, ht1, ho⟩
    have HT1 := hid ht1; have HO := hid ho
    have HX1 := hid (HX.out.only ho HBX.out)
    have hcx := cell_of_cells (k := r) HX1.out (show (icells x).toArray[r]? = some (.int .i64 y) by simpa using icells_at HY.out)
    have hfx := frozen_of_cells (k := r) HX1.out
    clear ht1 ho
    have HWL : ∀ q : Bool, (v == y) = q → Hid (writeL b at_ x r = if q then .inl 9 else .inr (at_ + 1, x.set r v)) := by
      intro q hq
      refine hid ?_
      unfold writeL
      rw [HV.out, List.getD, HY.out]
      simp only [Option.getD_some]
      cases q with
      | true => rw [if_pos (by simpa using hq)]; rfl
      | false => rw [if_neg (by simpa using hq)]; rfl
    cases hq : (v == y) with
    | true =>
      have H1 := HWL _ hq; clear HWL
      go_wp2
      refine ⟨rfl, ?_⟩
      unfold Wrote
      rw [H1.out]
      exact ⟨rfl, HO.out.mono fun q _ hq => Or.inl hq⟩
    | false =>
      have H1 := HWL _ hq; clear HWL
      go_wp2
      go_end0
      unfold Wrote
      rw [H1.out]
      refine ⟨rfl, ?_, HX1.out.set, ?_⟩
      · refine HT1.out.same fun q hq => ?_
        exact heap_setCell_other w1 ⟨bx, r, none⟩ q _ (fun e => HBX.out (by have e' : q = bx := e; rw [← e']; exact hq))
      · exact (HO.out.mono fun q _ hq => Or.inl hq).set _ (Or.inl (Or.inr rfl))
end Go.Proofs.Ytmogoaceangblaa
