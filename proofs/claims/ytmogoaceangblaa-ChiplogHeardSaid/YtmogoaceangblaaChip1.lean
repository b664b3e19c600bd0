/- The tone chip: what a counter, an envelope's step and its value are. -/
import Derived.Test.YtmogoaceangblaaChanged
namespace Go.Proofs.Ytmogoaceangblaa
open Go.RowKit

def inb (n lo hi : Int) : Bool := decide (lo ≤ n) && decide (n ≤ hi)
set_option maxHeartbeats 1000000 in
theorem cin_any (n lo hi : Int) (w : World) :
    Calls Try.prog 18 #[.int .i64 n, .int .i64 lo, .int .i64 hi] w fun e w' => e = .returned (.bool (inb n lo hi)) ∧ w = w' := by
  by_cases h1 : lo ≤ n
  · have h1' : decide (lo ≤ n) = true := decide_eq_true h1
    by_cases h2 : n ≤ hi
    · have h2' : decide (n ≤ hi) = true := decide_eq_true h2
      have H : Hid (inb n lo hi = true) := hid (by unfold inb; rw [h1', h2']; rfl)
      clear h1 h2
      go_enter Try.func18, Try.ntmps18
      go_wp2
      go_ret
      exact ⟨ret_bool H.out.symm, rfl⟩
    · have h2' : decide (n ≤ hi) = false := decide_eq_false h2
      have H : Hid (inb n lo hi = false) := hid (by unfold inb; rw [h1', h2']; rfl)
      clear h1 h2
      go_enter Try.func18, Try.ntmps18
      go_wp2
      go_ret
      exact ⟨ret_bool H.out.symm, rfl⟩
  · have h1' : decide (lo ≤ n) = false := decide_eq_false h1
    have H : Hid (inb n lo hi = false) := hid (by unfold inb; rw [h1']; rfl)
    clear h1
    go_enter Try.func18, Try.ntmps18
    go_wp2
    go_ret
    exact ⟨ret_bool H.out.symm, rfl⟩
/-- A counter's next value, and whether it turned. -/
def cnt (c p : Int) : Int × Bool := if p ≤ c + 1 then (0, true) else (c + 1, false)
set_option maxHeartbeats 1000000 in
theorem counted_any (c p : Int) (w : World) (h0 : 0 ≤ c) (h1 : c ≤ 65535) :
    Calls Try.prog 36 #[.int .i64 c, .int .i64 p] w fun e w' => e = .returned (.tuple #[.int .i64 (cnt c p).1, .bool (cnt c p).2]) ∧ w = w' := by
  by_cases h : p ≤ c + 1
  · have h' : decide (p ≤ c + 1) = true := decide_eq_true h
    have H : Hid (cnt c p = (0, true)) := hid (by unfold cnt; rw [if_pos h])
    clear h
    go_enter Try.func36, Try.ntmps36
    go_wp2
    go_ret2
    rw [H.out]
    exact ⟨rfl, rfl⟩
  · have h' : decide (p ≤ c + 1) = false := decide_eq_false h
    have H : Hid (cnt c p = (c + 1, false)) := hid (by unfold cnt; rw [if_neg h])
    clear h
    go_enter Try.func36, Try.ntmps36
    go_wp2
    go_ret2
    rw [H.out]
    exact ⟨rfl, rfl⟩
theorem cnt_range (c p : Int) (h0 : 0 ≤ c) (hp : p ≤ 65536) : 0 ≤ (cnt c p).1 ∧ (cnt c p).1 ≤ 65535 := by
  unfold cnt; split
  · simp
  · simp only; omega
set_option maxHeartbeats 2000000 in
theorem follows_ex (s t : Int) (h0 : 0 ≤ t) (h1 : t ≤ 63) : ∃ r : Int, (0 ≤ r ∧ r ≤ 63) ∧ ∀ w, Calls Try.prog 38 #[.int .i64 s, .int .i64 t] w fun e w' => e = .returned (.int .i64 r) ∧ w = w' := by
  by_cases h : t < 63
  · have h' : decide (t < 63) = true := decide_eq_true h
    refine ⟨t + 1, by omega, fun w => ?_⟩
    clear h
    go_enter Try.func38, Try.ntmps38
    go_wp2
    go_ret
    exact ⟨rfl, rfl⟩
  · have h' : decide (t < 63) = false := decide_eq_false h
    clear h
    cases hb1 : (bits .and .i64 s 8 == 0) with
    | true =>
      refine ⟨63, by omega, fun w => ?_⟩
      go_enter Try.func38, Try.ntmps38
      go_wp2
      go_ret
      exact ⟨rfl, rfl⟩
    | false =>
      cases hb2 : (bits .and .i64 s 1 != 0) with
      | true =>
        refine ⟨63, by omega, fun w => ?_⟩
        go_enter Try.func38, Try.ntmps38
        go_wp2
        go_ret
        exact ⟨rfl, rfl⟩
      | false =>
        cases hb3 : (bits .and .i64 s 2 != 0) with
        | true =>
          refine ⟨0, by omega, fun w => ?_⟩
          go_enter Try.func38, Try.ntmps38
          go_wp2
          go_ret
          exact ⟨rfl, rfl⟩
        | false =>
          refine ⟨32, by omega, fun w => ?_⟩
          go_enter Try.func38, Try.ntmps38
          go_wp2
          go_ret
          exact ⟨rfl, rfl⟩
set_option maxHeartbeats 8000000 in
theorem shaped_ex (s t : Int) (h0 : 0 ≤ t) (h1 : t ≤ 63) : ∃ r : Int, (0 ≤ r ∧ r ≤ 31) ∧ ∀ w, Calls Try.prog 39 #[.int .i64 s, .int .i64 t] w fun e w' => e = .returned (.int .i64 r) ∧ w = w' := by
  have hu : ∃ u : Int, (0 ≤ u ∧ u ≤ 31) ∧ t % 32 = u := ⟨t % 32, by omega, rfl⟩
  obtain ⟨u, hu0, hu⟩ := hu
  obtain ⟨hu1, hu2⟩ := hu0
  by_cases h : t < 32
  · have h' : decide (t < 32) = true := decide_eq_true h
    clear h
    cases hb1 : (bits .and .i64 s 4 == 0) with
    | true =>
      refine ⟨31 - u, by omega, fun w => ?_⟩
      go_enter Try.func39, Try.ntmps39
      go_wp2
      go_ret
      exact ⟨ret_int (by omega), rfl⟩
    | false =>
      refine ⟨u, by omega, fun w => ?_⟩
      go_enter Try.func39, Try.ntmps39
      go_wp2
      go_ret
      exact ⟨ret_int (by omega), rfl⟩
  · have h' : decide (t < 32) = false := decide_eq_false h
    clear h
    cases hb8 : (bits .and .i64 s 8 == 0) with
    | true =>
      refine ⟨0, by omega, fun w => ?_⟩
      cases hb1 : (bits .and .i64 s 4 == 0) with
      | true =>
        go_enter Try.func39, Try.ntmps39
        go_wp2
        go_ret
        exact ⟨ret_int (by omega), rfl⟩
      | false =>
        go_enter Try.func39, Try.ntmps39
        go_wp2
        go_ret
        exact ⟨ret_int (by omega), rfl⟩
    | false =>
      cases hb1 : (bits .and .i64 s 1 != 0) with
      | true =>
        cases hb4 : (bits .and .i64 s 4 == 0) with
        | true =>
          have hb4' : (bits .and .i64 s 4 != 0) = false := by unfold bne; rw [hb4]; rfl
          cases hb2 : (bits .and .i64 s 2 != 0) with
          | true =>
            refine ⟨31, by omega, fun w => ?_⟩
            go_enter Try.func39, Try.ntmps39
            go_wp2
            go_ret
            exact ⟨ret_int (by omega), rfl⟩
          | false =>
            refine ⟨0, by omega, fun w => ?_⟩
            go_enter Try.func39, Try.ntmps39
            go_wp2
            go_ret
            exact ⟨ret_int (by omega), rfl⟩
        | false =>
          have hb4' : (bits .and .i64 s 4 != 0) = true := by unfold bne; rw [hb4]; rfl
          cases hb2 : (bits .and .i64 s 2 != 0) with
          | true =>
            refine ⟨0, by omega, fun w => ?_⟩
            go_enter Try.func39, Try.ntmps39
            go_wp2
            go_ret
            exact ⟨ret_int (by omega), rfl⟩
          | false =>
            refine ⟨31, by omega, fun w => ?_⟩
            go_enter Try.func39, Try.ntmps39
            go_wp2
            go_ret
            exact ⟨ret_int (by omega), rfl⟩
      | false =>
        cases hb4 : (bits .and .i64 s 4 == 0) with
        | true =>
          cases hb2 : (bits .and .i64 s 2 != 0) with
          | true =>
            refine ⟨31 - (31 - u), by omega, fun w => ?_⟩
            go_enter Try.func39, Try.ntmps39
            go_wp2
            go_ret
            exact ⟨ret_int (by omega), rfl⟩
          | false =>
            refine ⟨31 - u, by omega, fun w => ?_⟩
            go_enter Try.func39, Try.ntmps39
            go_wp2
            go_ret
            exact ⟨ret_int (by omega), rfl⟩
        | false =>
          cases hb2 : (bits .and .i64 s 2 != 0) with
          | true =>
            refine ⟨31 - u, by omega, fun w => ?_⟩
            go_enter Try.func39, Try.ntmps39
            go_wp2
            go_ret
            exact ⟨ret_int (by omega), rfl⟩
          | false =>
            refine ⟨u, by omega, fun w => ?_⟩
            go_enter Try.func39, Try.ntmps39
            go_wp2
            go_ret
            exact ⟨ret_int (by omega), rfl⟩
end Go.Proofs.Ytmogoaceangblaa
