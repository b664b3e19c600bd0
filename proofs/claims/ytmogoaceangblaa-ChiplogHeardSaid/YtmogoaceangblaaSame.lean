/- chiplog.same counts the entries that are equal to the one before. -/
import Derived.Test.YtmogoaceangblaaEq14
import Derived.Test.YtmogoaceangblaaChanged
import Derived.Deep.RegionHeld3
namespace Go.Proofs.Ytmogoaceangblaa
open Go.RowKit

/-- How far a test holds, from n on, at most so many times. -/
def upto (ok : Nat → Bool) : Nat → Nat → Nat
  | 0, n => n
  | fuel + 1, n => if ok n then upto ok fuel (n + 1) else n
def sameAs (xs : List (List Int)) (i n : Nat) : Bool := decide (i + n < xs.length) && xs.getD (i + n) [] == prev xs i
theorem upto_no {ok : Nat → Bool} {f n : Nat} (h : ok n = false) : upto ok f n = n := by
  cases f with
  | zero => rfl
  | succ f => unfold upto; rw [if_neg (by rw [h]; decide)]
theorem upto_yes {ok : Nat → Bool} {f n : Nat} (h : ok n = true) : upto ok (f + 1) n = upto ok f (n + 1) := by
  rw [upto, if_pos h]

set_option maxHeartbeats 4000000 in
set_option maxRecDepth 100000 in
theorem same_any (A : Option Addr) (xs : List (List Int)) (c i : Nat) (w : World) (hx : EntAt w A xs) (hi : i ≤ xs.length) (hn : xs.length ≤ 4000) (h14 : ∀ z ∈ xs, z.length = 14) :
    Calls Try.prog 12 #[.slice A xs.length c, .int .i64 i] w fun e w' => e = .returned (.int .i64 (upto (sameAs xs i) 127 0 : Nat)) ∧ Below w.heap.size w w' := by
  have HX := hid hx; have H14 := hid h14; clear hx
  have HP := hid (prev_len h14 hi)
  clear h14
  have hgd : Try.prog.eqGuardType Try.prog.depth 43 = false := by kernel_rfl
  have hi0 : (0 : Int) ≤ (i : Int) := Int.natCast_nonneg _
  go_enter Try.func12, Try.ntmps12
  go_wp2
  go_loopw [5] (fun v wr => ∃ n : Nat, n ≤ 127 ∧ v = .int .i64 n ∧ Hid (upto (sameAs xs i) (127 - n) n = upto (sameAs xs i) 127 0) ∧ Hid (Below w.heap.size w wr)) (fun v _ => 127 - (intOf v).toNat)
  case atStart => exact ⟨0, by omega, rfl, hid rfl, hid (Below.refl _ _)⟩
  case round =>
    obtain ⟨n, hn7, rfl, HU, HB⟩ := hrel
    have hn0 : (0 : Int) ≤ (n : Int) := Int.natCast_nonneg _
    by_cases h7 : n < 127
    · by_cases hlt : i + n < xs.length
      · obtain ⟨hl, b, rfl, hr⟩ := (HX.out.below HB.out) (i + n) (xs.getD (i + n) []) (by rw [List.getD, List.getElem?_eq_getElem hlt]; rfl)
        have hbw : b < wr.heap.size := World.block_lt_of_cell? wr _ (hr 0 _ (List.getElem?_eq_getElem (by rw [icells_len]; omega)))
        have HSQ : Hid (sameAs xs i n = (xs.getD (i + n) [] == prev xs i)) := hid (by unfold sameAs; rw [decide_eq_true hlt]; rfl)
        have heq := run_eql75 (xs.getD (i + n) []) (prev xs i) hl HP.out
        have hsz : (Try.prog.info? 43).map (·.size) = some (icells (xs.getD (i + n) [])).length := by rw [icells_len, hl]; exact size75
        have HRS : Hid (∀ w', Below wr.heap.size wr w' → w'.rangeAt b ((i + n) * 14) (icells (xs.getD (i + n) []))) := hid (fun w' h => rangeAt_below hr h)
        have hd1 : decide ((n : Int) < 127) = true := decide_eq_true (by omega)
        have hd2 : decide ((i : Int) + (n : Int) < (xs.length : Int)) = true := decide_eq_true (by omega)
        have hwi : IntKind.i64.wrap ((i : Int) + (n : Int)) = (i : Int) + (n : Int) := by rw [IntKind.wrap_i64]; omega
        have hin : ((i : Int) + (n : Int)).toNat = i + n := by omega
        have hge : (0 : Int) ≤ (i : Int) + (n : Int) := by omega
        have hlt' : (i : Int) + (n : Int) < (xs.length : Int) := by omega
        have hu75 := Try.underlying43
        cases hq : (xs.getD (i + n) [] == prev xs i) with
        | true =>
          rw [hq] at heq
          have HQ := hid hq; clear hq hr
          generalize xs.getD (i + n) [] = z at *
          go_wp2_with fail
          go_region_held3 (fun w' => w'.rangeAt b ((i + n) * 14) (icells z) ∧ Below wr.heap.size wr w') (first | assumption | (exact ⟨HRS.out _ (Below.refl _ _).drew, (Below.refl _ _).drew⟩) | (obtain ⟨h1, h2⟩ := (by assumption : _ ∧ Below wr.heap.size wr _); exact ⟨HRS.out _ (Below.step h2 (by assumption)), Below.step h2 (by assumption)⟩))
            ((first
              | (go_at_call 15; go_loud (refine (before_any _ xs _ i _ (HX.out.below (HB.out.trans (Below.mono (And.right (by assumption)) HB.out.size))) (by omega) (by omega)).mono ?_; rintro e w' ⟨rfl, hb⟩))))
          have HB2 : Hid (Below w.heap.size w w') := hid (HB.out.trans (Below.mono (And.right (by assumption)) HB.out.size))
          clear hsz hu75
          go_wp2
          go_roundw
          case rel =>
            refine ⟨n + 1, by omega, by go_num, hid ?_, HB2.out⟩
            rw [← HU.out, show 127 - n = (127 - (n + 1)) + 1 by omega]
            exact (upto_yes (HSQ.out.trans HQ.out)).symm
          case measure => simp [intOf]; omega
        | false =>
          rw [hq] at heq
          have HQ := hid hq; clear hq hr
          generalize xs.getD (i + n) [] = z at *
          go_wp2_with fail
          go_region_held3 (fun w' => w'.rangeAt b ((i + n) * 14) (icells z) ∧ Below wr.heap.size wr w') (first | assumption | (exact ⟨HRS.out _ (Below.refl _ _).drew, (Below.refl _ _).drew⟩) | (obtain ⟨h1, h2⟩ := (by assumption : _ ∧ Below wr.heap.size wr _); exact ⟨HRS.out _ (Below.step h2 (by assumption)), Below.step h2 (by assumption)⟩))
            ((first
              | (go_at_call 15; go_loud (refine (before_any _ xs _ i _ (HX.out.below (HB.out.trans (Below.mono (And.right (by assumption)) HB.out.size))) (by omega) (by omega)).mono ?_; rintro e w' ⟨rfl, hb⟩))))
          have HB2 : Hid (Below w.heap.size w w') := hid (HB.out.trans (Below.mono (And.right (by assumption)) HB.out.size))
          clear hsz hu75
          go_wp2
          go_ret
          exact ⟨ret_int (by rw [← HU.out, upto_no (HSQ.out.trans HQ.out)]), HB2.out⟩
      · have HSQ : Hid (sameAs xs i n = false) := hid (by unfold sameAs; rw [decide_eq_false hlt]; rfl)
        have hd1 : decide ((n : Int) < 127) = true := decide_eq_true (by omega)
        have hd2 : decide ((i : Int) + (n : Int) < (xs.length : Int)) = false := decide_eq_false (by omega)
        have hwi : IntKind.i64.wrap ((i : Int) + (n : Int)) = (i : Int) + (n : Int) := by rw [IntKind.wrap_i64]; omega
        go_wp2_with fail
        go_quiet (fail)
        have HB2 := hid (below_drewN HB.out nq)
        go_wp2
        go_ret
        exact ⟨ret_int (by rw [← HU.out, upto_no HSQ.out]), HB2.out⟩
    · obtain rfl : n = 127 := by omega
      go_wp2_with fail
      go_quiet (fail)
      have HB2 := hid (below_drewN HB.out nq)
      go_wp2
      go_ret
      exact ⟨ret_int (by rw [← HU.out]; rfl), HB2.out⟩
end Go.Proofs.Ytmogoaceangblaa
