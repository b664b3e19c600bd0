/- The reference's reader: its next byte. -/
import Derived.Test.YtjefhconahdbiaaRd1
namespace Go.Proofs.Ytjefhconahdbiaa
open Go.RowKit

/-- What next leaves. -/
def NextTo (w : World) (r : Nat) (sb : Value) (log : List (List Int)) (cyc : List Int) (vl vc : Value) (s : Int × Nat × Int) (en : Ending) (w' : World) : Prop :=
  en = .returned (.int .i64 s.1) ∧ RdV w' r sb s.2.1 log cyc vl vc s.2.2 ∧ Only (fun q => q = r) w w'
set_option maxHeartbeats 2000000 in
theorem rnext_err (w : World) (r : Nat) (sb : Value) (at_ : Nat) (log : List (List Int)) (cyc : List Int) (vl vc : Value) (e : Int) (h : RdV w r sb at_ log cyc vl vc e) (he : ¬ e = 0) :
    Calls Try.prog 85 #[.pointer (some ⟨r, 0, none⟩)] w (NextTo w r sb log cyc vl vc (0, at_, e)) := by
  have hc4 := cell_of_cells (k := 4) h.blk rfl
  have HH := hid h
  have hne : (e != 0) = true := by simpa using he
  clear h he
  go_enter Try.func85, Try.ntmps85
  go_wp2
  go_ret
  exact ⟨rfl, HH.out, Only.refl _ _⟩
set_option maxHeartbeats 2000000 in
theorem rnext_end (w : World) (r : Nat) (A : Option Addr) (c : Nat) (b : List Int) (log : List (List Int)) (cyc : List Int) (vl vc : Value) (h : RdV w r (.slice A b.length c) b.length log cyc vl vc 0) :
    Calls Try.prog 85 #[.pointer (some ⟨r, 0, none⟩)] w (NextTo w r (.slice A b.length c) log cyc vl vc (0, b.length, 12)) := by
  have hc4 := cell_of_cells (k := 4) h.blk rfl
  have hc0 := cell_of_cells (k := 0) h.blk rfl
  have hc1 := cell_of_cells (k := 1) h.blk rfl
  have hf4 := frozen_of_cells (k := 4) h.blk
  have HH := hid h
  clear h
  go_enter Try.func85, Try.ntmps85
  go_wp2_with fail
  go_quiet (fail)
  go_wp2
  go_ret
  exact ⟨rfl, (HH.out.below (below_drewN (Below.refl _ _) _)).setE 12, ((Only.refl _ w).drewN _).set _ (Or.inl rfl)⟩
set_option maxHeartbeats 2000000 in
theorem rnext_ok (w : World) (r : Nat) (A : Option Addr) (c : Nat) (b : List Int) (at_ : Nat) (log : List (List Int)) (cyc : List Int) (vl vc : Value) (v : Int)
    (h : RdV w r (.slice A b.length c) at_ log cyc vl vc 0) (hR : Reads w r A b) (hv : b[at_]? = some v) :
    Calls Try.prog 85 #[.pointer (some ⟨r, 0, none⟩)] w (NextTo w r (.slice A b.length c) log cyc vl vc (v, at_ + 1, 0)) := by
  obtain ⟨p, o, rfl, hcv⟩ := bytesAt_cell hR.bytes hv
  have hr := hR.rng v (List.mem_of_getElem? hv)
  have hpt : p < r := hR.sep p o rfl
  have hbl := hR.le
  have hlt := (List.getElem?_eq_some_iff.1 hv).1
  have hc4 := cell_of_cells (k := 4) h.blk rfl
  have hc0 := cell_of_cells (k := 0) h.blk rfl
  have hc1 := cell_of_cells (k := 1) h.blk rfl
  have hf1 := frozen_of_cells (k := 1) h.blk
  have ha0 : (0 : Int) ≤ (at_ : Int) := by omega
  have hab : (at_ : Int) < (b.length : Int) := by omega
  have hge : decide (b.length ≤ at_) = false := decide_eq_false (by omega)
  have HH := hid h; have HV := hid hv; have HR := hid hr
  clear h hR hv hr
  have hnep : ¬ p = r := by omega
  have hw1 : IntKind.i64.wrap ((at_ : Int) + 1) = (at_ : Int) + 1 := by rw [IntKind.wrap_i64]; omega
  have hw2 : IntKind.i64.wrap ((at_ : Int) + 1 - 1) = (at_ : Int) := by rw [IntKind.wrap_i64]; omega
  have hw3 : IntKind.i64.wrap v = v := by have := HR.out; rw [IntKind.wrap_i64]; omega
  go_enter Try.func85, Try.ntmps85
  go_wp2_with fail
  go_quiet (fail)
  go_wp2_with fail
  have hca : ((at_ : Int) + 1) = ((at_ + 1 : Nat) : Int) := by omega
  obtain ⟨w2, hw⟩ : ∃ w2, w2 = ((w.drewN nq).setCell ⟨r, 1, none⟩ (.int .i64 ((at_ : Int) + 1))) := ⟨_, rfl⟩
  have HT2 : Hid (RdV w2 r (.slice (some ⟨p, o, none⟩) b.length c) (at_ + 1) log cyc vl vc 0) := hid (by
    rw [hw, hca]; exact (HH.out.below (below_drewN (Below.refl _ _) nq)).setAt (at_ + 1))
  have HO2 : Hid (Only (fun q => q = r) w w2) := hid (by rw [hw]; exact ((Only.refl _ w).drewN nq).set _ (Or.inl rfl))
  have hcv2 : w2.cell? ⟨p, o + at_, none⟩ = some (.int .u8 v) := (HO2.out.cell (World.block_lt_of_cell? w _ hcv) (fun h => hnep h)).trans hcv
  rw [← hw]
  clear hw hc0 hc1 hf1 hcv hca hc4
  have hc0 := cell_of_cells (k := 0) HT2.out.blk rfl
  have hc1 := cell_of_cells (k := 1) HT2.out.blk rfl
  go_quiet (fail)
  go_wp2
  go_ret
  exact ⟨rfl, HT2.out.below (below_drewN (Below.refl _ _) _), HO2.out.drewN _⟩
theorem rnext_any (w : World) (r : Nat) (A : Option Addr) (c : Nat) (b : List Int) (at_ : Nat) (log : List (List Int)) (cyc : List Int) (vl vc : Value) (e : Int)
    (h : RdV w r (.slice A b.length c) at_ log cyc vl vc e) (hR : Reads w r A b) (hat : at_ ≤ b.length) :
    Calls Try.prog 85 #[.pointer (some ⟨r, 0, none⟩)] w (NextTo w r (.slice A b.length c) log cyc vl vc (nextS b at_ e)) := by
  by_cases he : e = 0
  · subst he
    cases hv : b[at_]? with
    | none =>
      have hea : at_ = b.length := by have := List.getElem?_eq_none_iff.1 hv; omega
      have e2 : nextS b at_ 0 = (0, at_, 12) := by unfold nextS; rw [if_pos rfl, hv]
      rw [e2]
      subst hea
      exact rnext_end w r A c b log cyc vl vc h
    | some v =>
      have e2 : nextS b at_ 0 = (v, at_ + 1, 0) := by unfold nextS; rw [if_pos rfl, hv]
      rw [e2]
      exact rnext_ok w r A c b at_ log cyc vl vc v h hR hv
  · have e2 : nextS b at_ e = (0, at_, e) := by unfold nextS; rw [if_neg he]
    rw [e2]
    exact rnext_err w r _ at_ log cyc vl vc e h he
end Go.Proofs.Ytjefhconahdbiaa
