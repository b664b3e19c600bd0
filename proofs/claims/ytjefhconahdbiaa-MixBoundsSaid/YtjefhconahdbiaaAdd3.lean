/- slices.ContainsFunc, mix.framesOK, the reference's in and tame return what plain functions on lists say, for every slice of frames. -/
import Derived.Test.YtjefhconahdbiaaAdd2
namespace Go.Proofs.Ytjefhconahdbiaa
open Go.RowKit
set_option maxHeartbeats 400000 in
theorem containsFunc (A : Option Addr) (xs : List (Int × Int)) (c : Nat) (w : World) (hx : FramesAt w A xs) (hn : xs.length ≤ 2 ^ 47) :
    Calls Try.prog 72 #[.slice A xs.length c, .func (.func 73) #[] #[]] w fun e w' => e = .returned (.bool (!xs.all fok)) ∧ Below w.heap.size w w' := by
  have HX := hid hx; clear hx
  go_enter Try.func72, Try.ntmps72
  go_wp2_with fail
  refine (indexFunc A xs c _ HX.out hn).mono ?_
  rintro e w1 ⟨r, rfl, hr, hb⟩
  have HR := hid hr; clear hr
  have HB := hid hb; clear hb
  go_wp2
  go_ret
  exact ⟨ret_bool HR.out, HB.out⟩

def allOK (xs : List (Int × Int)) : Bool := decide (xs.length ≤ 200000) && xs.all fok

set_option maxHeartbeats 400000 in
theorem framesOK (A : Option Addr) (xs : List (Int × Int)) (c : Nat) (w : World) (hx : FramesAt w A xs) (hn : xs.length ≤ 2 ^ 47) :
    Calls Try.prog 47 #[.slice A xs.length c] w fun e w' => e = .returned (.bool (allOK xs)) ∧ Below w.heap.size w w' := by
  have HX := hid hx; clear hx
  have H : ∀ b : Bool, decide (xs.length ≤ 200000) = b → Hid (allOK xs = (if b then xs.all fok else false)) := by
    intro b hb; refine hid ?_; unfold allOK; rw [hb]; cases b <;> simp
  by_cases h : xs.length ≤ 200000
  · have H1 := H _ (decide_eq_true h); clear H
    go_enter Try.func47, Try.ntmps47
    go_wp2_with fail
    refine (containsFunc A xs c _ HX.out hn).mono ?_
    rintro e w1 ⟨rfl, hb⟩
    have HB := hid hb; clear hb
    go_wp2
    go_ret
    exact ⟨ret_bool (by rw [H1.out]; simp), HB.out⟩
  · have H1 := H _ (decide_eq_false h); clear H
    go_enter Try.func47, Try.ntmps47
    go_wp2
    go_ret
    exact ⟨ret_bool (by rw [H1.out]; simp), Below.refl _ _⟩

set_option maxHeartbeats 400000 in
theorem refin (n lo hi : Int) (w : World) :
    Calls Try.prog 56 #[.int .i64 n, .int .i64 lo, .int .i64 hi] w fun e w' => e = .returned (.bool (inr n lo hi)) ∧ w = w' := by
  have H : ∀ c : Bool, decide (lo ≤ n) = c → Hid (inr n lo hi = (if c then decide (n ≤ hi) else false)) := by
    intro c hc; refine hid ?_; unfold inr; rw [hc]; cases c <;> simp
  by_cases h1 : lo ≤ n
  · have H1 := H true (decide_eq_true h1); clear H
    go_enter Try.func56, Try.ntmps56
    go_wp2
    go_ret
    exact ⟨ret_bool (by rw [H1.out]; rfl), rfl⟩
  · have H1 := H false (decide_eq_false h1); clear H
    go_enter Try.func56, Try.ntmps56
    go_wp2
    go_ret
    exact ⟨ret_bool (by rw [H1.out]; rfl), rfl⟩
theorem refin40 (n : Int) (w : World) :
    Calls Try.prog 56 #[.int .i64 n, .int .i64 (-1099511627776), .int .i64 1099511627776] w fun e w' => e = .returned (.bool (rng n)) ∧ w = w' := refin n _ _ w

theorem fok_of {x y : Int} (h1 : rng x = true) (h2 : rng y = true) : fok (x, y) = true := by unfold fok; simp [h1, h2]
theorem fok_no {x y : Int} (h : rng x = false ∨ rng y = false) : fok (x, y) = false := by unfold fok; rcases h with h | h <;> simp [h]

set_option maxHeartbeats 1000000 in
theorem ref_tame (A : Option Addr) (xs : List (Int × Int)) (c : Nat) (w : World) (hx : FramesAt w A xs) (hn : xs.length ≤ 2 ^ 47) :
    Calls Try.prog 49 #[.slice A xs.length c] w fun e w' => e = .returned (.bool (allOK xs)) ∧ Below w.heap.size w w' := by
  have HX := hid hx; clear hx
  have H : ∀ b : Bool, decide (xs.length ≤ 200000) = b → Hid (allOK xs = (if b then xs.all fok else false)) := by
    intro b hb; refine hid ?_; unfold allOK; rw [hb]; cases b <;> simp
  by_cases h : xs.length ≤ 200000
  · have H1 := H _ (decide_eq_true h); clear H
    have hd : decide (200000 < (xs.length : Int)) = false := decide_eq_false (by omega)
    go_enter Try.func49, Try.ntmps49
    go_wp2
    go_loopw [4, 10] (fun v i wr => ∃ k : Nat, k ≤ xs.length ∧ i = .int .i64 k ∧ Hid ((xs.take k).all fok = true) ∧ Hid (Below w.heap.size w wr)) (fun _ i _ => xs.length - (intOf i).toNat)
    case atStart => exact ⟨0, Nat.zero_le _, rfl, by simp [Hid], Below.refl _ _⟩
    case round =>
      obtain ⟨k, hk, rfl, HA, HB⟩ := hrel
      by_cases hlt : k < xs.length
      · obtain ⟨b, off, x, y, rfl, hxk, hc1, hc2⟩ := (HX.out.below HB.out) k hlt
        have HXk := hid hxk; clear hxk
        have HG := hid (Below.grow HB.out (.cells #[.int .i64 x, .int .i64 y] 45)); clear HB
        cases hf1 : rng x with
        | true =>
          cases hf2 : rng y with
          | true =>
            have HF := hid (fok_of hf1 hf2)
            go_wp2_with (go_at_call 56; refine (refin40 _ _).mono ?_; rintro e w' ⟨rfl, rfl⟩)
            go_roundw
            case rel => exact ⟨k + 1, by omega, by go_num, all_take HXk.out HA.out HF.out, HG.out⟩
            case measure => simp [intOf]; omega
          | false =>
            have HF := hid (fok_no (Or.inr hf2) : fok (x, y) = false)
            go_wp2_with (go_at_call 56; refine (refin40 _ _).mono ?_; rintro e w' ⟨rfl, rfl⟩)
            go_ret
            exact ⟨ret_bool (by rw [H1.out, all_no HXk.out HF.out]; rfl), HG.out⟩
        | false =>
          have HF := hid (fok_no (Or.inl hf1) : fok (x, y) = false)
          go_wp2_with (go_at_call 56; refine (refin40 _ _).mono ?_; rintro e w' ⟨rfl, rfl⟩)
          go_ret
          exact ⟨ret_bool (by rw [H1.out, all_no HXk.out HF.out]; rfl), HG.out⟩
      · have hk' : k = xs.length := by omega
        subst hk'
        go_wp2
        go_ret
        exact ⟨ret_bool (by have := HA.out; rw [List.take_length] at this; rw [H1.out, this]; rfl), HB.out⟩
  · have H1 := H _ (decide_eq_false h); clear H
    go_enter Try.func49, Try.ntmps49
    go_wp2
    go_ret
    exact ⟨ret_bool (by rw [H1.out]; rfl), Below.refl _ _⟩

/-! Slices that the call itself made. -/
def cellsOf (xs : List (Int × Int)) : List Value := xs.flatMap fun x => [.int .i64 x.1, .int .i64 x.2]
theorem info45 : (Try.prog.info? 45).map (fun i => (i.zero, i.size, i.bytes)) = some (some (.agg #[.int .i64 0, .int .i64 0]), 2, 16) := by kernel_rfl

end Go.Proofs.Ytjefhconahdbiaa
