/- The reference's reader: an entry that is not taken (an error before, or too many). -/
import Derived.Test.YtjefhconahdbiaaRd2
namespace Go.Proofs.Ytjefhconahdbiaa
open Go.RowKit

set_option maxHeartbeats 2000000 in
theorem radd_err (w : World) (r : Nat) (sb : Value) (at_ : Nat) (log : List (List Int)) (cyc : List Int) (vl vc : Value) (e : Int) (x : Value) (cost : Int) (h : RdV w r sb at_ log cyc vl vc e) (he : ¬ e = 0) :
    Calls Try.prog 97 #[.pointer (some ⟨r, 0, none⟩), x, .int .i64 cost] w fun en w' => en = .returned (.tuple #[]) ∧ w' = w := by
  have hc4 := cell_of_cells (k := 4) h.blk rfl
  have hne : (e != 0) = true := by simpa using he
  clear h he
  go_enter Try.func97, Try.ntmps97
  go_wp2
  first | go_end0 | refine bodyPost_ret (results_none rfl _ _ _) rfl ?_
  exact ⟨rfl, rfl⟩
set_option maxHeartbeats 2000000 in
theorem radd_full (w : World) (r : Nat) (sb : Value) (at_ : Nat) (log : List (List Int)) (cyc : List Int) (vl vc : Value) (x : Value) (cost : Int) (h : RdV w r sb at_ log cyc vl vc 0) (hl : log.length = 4000) :
    Calls Try.prog 97 #[.pointer (some ⟨r, 0, none⟩), x, .int .i64 cost] w fun en w' => en = .returned (.tuple #[]) ∧ RdV w' r sb at_ log cyc vl vc 4 ∧ Only (fun q => q = r) w w' := by
  have hc4 := cell_of_cells (k := 4) h.blk rfl
  have hc2 := cell_of_cells (k := 2) h.blk rfl
  have hf4 := frozen_of_cells (k := 4) h.blk
  obtain ⟨hdrs, h0, _⟩ := h.out
  obtain ⟨LA, lc, rfl, _⟩ := owned_form h0
  have HH := hid h
  have hc2' : w.cell? ⟨r, 2, none⟩ = some (.slice LA 4000 lc) := by rw [hc2]; simp [hl]
  clear h h0 hc2 hl
  go_enter Try.func97, Try.ntmps97
  go_wp2
  first | go_end0 | refine bodyPost_ret (results_none rfl _ _ _) rfl ?_
  exact ⟨rfl, HH.out.setE 4, (Only.refl _ w).set _ (Or.inl rfl)⟩
end Go.Proofs.Ytjefhconahdbiaa
