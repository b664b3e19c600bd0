/- The statements' own same: two logs that read alike are told the same. -/
import Derived.Test.YtjefhconahdbiaaPackLaw
import Derived.Test.YtjefhconahdbiaaRefRun
namespace Go.Proofs.Ytjefhconahdbiaa
open Go.RowKit

theorem ints_cells {w : World} {b off : Nat} {z : List Int} (h : w.rangeAt b off (icells z)) : ∀ j, j < z.length → w.cell? ⟨b, off + j, none⟩ = some (.int .i64 (z.getD j 0)) := by
  intro j hj
  have := h j _ (icells_at (List.getElem?_eq_getElem hj))
  rw [this, List.getD, List.getElem?_eq_getElem hj]
  rfl
theorem ints_equal' (A B : Option Addr) (z : List Int) (c d : Nat) (w : World) (hA : IntsAt w A z) (hB : IntsAt w B z) (hz : z.length ≤ 4001) :
    Calls Try.prog 39 #[.slice A z.length c, .slice B z.length d] w fun e w' => e = .returned (.bool true) ∧ Below w.heap.size w w' := by
  by_cases h0 : z.length = 0
  · rw [h0]
    exact (Try.slices_Equal_int_empty A B c 0 d w (by omega)).mono fun e w' ⟨h1, h2⟩ => ⟨by simpa using h1, by rw [h2]; exact Below.refl _ _⟩
  · obtain ⟨b1, o1, rfl, h1⟩ := hA (by omega)
    obtain ⟨b2, o2, rfl, h2⟩ := hB (by omega)
    refine (Try.slices_Equal_int b1 o1 z.length c b2 o2 z.length d z z w (Nat.le_refl _) (Nat.le_refl _) (by omega) (by omega) (ints_cells h1) (ints_cells h2)).mono ?_
    rintro e w' ⟨rfl, q, rfl⟩
    exact ⟨by simp, below_drewN (Below.refl _ _) _⟩
theorem ints_equal (A B : Option Addr) (z : List Int) (c d : Nat) (w : World) (hA : IntsAt w A z) (hB : IntsAt w B z) (hz : z.length ≤ 4000) :
    Calls Try.prog 39 #[.slice A z.length c, .slice B z.length d] w fun e w' => e = .returned (.bool true) ∧ Below w.heap.size w w' := ints_equal' A B z c d w hA hB (by omega)
set_option maxHeartbeats 1000000 in
theorem eqfn_same (A B : Option Addr) (z : List Int) (c d : Nat) (w : World) (hA : IntsAt w A z) (hB : IntsAt w B z) (hz : z.length ≤ 4000) :
    Calls Try.prog 66 #[.slice A z.length c, .slice B z.length d] w fun e w' => e = .returned (.bool true) ∧ Below w.heap.size w w' := by
  have H := hid (ints_equal A B z c d w hA hB hz)
  clear hA hB hz
  go_enter Try.func66, Try.ntmps66
  go_wp2_with fail
  refine H.out.mono ?_
  rintro e w1 ⟨rfl, hb⟩
  have HB := hid hb; clear hb
  go_wp2
  go_ret
  exact ⟨rfl, HB.out⟩
set_option maxHeartbeats 4000000 in
set_option maxRecDepth 100000 in
theorem eqfunc_same (A B : Option Addr) (xs : List (List Int)) (c d : Nat) (w : World) (hA : LogAt w A xs) (hB : LogAt w B xs) (hl : xs.length ≤ 4000) (hz : ∀ z ∈ xs, z.length ≤ 4000) :
    Calls Try.prog 65 #[.slice A xs.length c, .slice B xs.length d, .func (.func 66) #[] #[]] w fun e w' => e = .returned (.bool true) ∧ Below w.heap.size w w' := by
  have HA := hid hA; have HB := hid hB; have HZ := hid hz
  have hne : ((xs.length : Int) != (xs.length : Int)) = false := by simp
  clear hA hB hz
  go_enter Try.func65, Try.ntmps65
  go_wp2
  go_loopw [17] (fun i wr => ∃ k : Nat, k ≤ xs.length ∧ i = .int .i64 k ∧ Hid (Below w.heap.size w wr)) (fun i _ => xs.length - (intOf i).toNat)
  case atStart => exact ⟨0, Nat.zero_le _, rfl, hid (Below.refl _ _)⟩
  case round =>
    obtain ⟨k, hk, rfl, HW⟩ := hrel
    by_cases hlt : k < xs.length
    · obtain ⟨b1, o1, A', c1, z, rfl, hx1, r1, i1⟩ := (HA.out.below HW.out) k hlt
      obtain ⟨b2, o2, B', c2, z', rfl, hx2, r2, i2⟩ := (HB.out.below HW.out) k hlt
      rw [hx1] at hx2
      obtain rfl := Option.some.inj hx2
      have hz4 : z.length ≤ 4000 := HZ.out z (List.mem_of_getElem? hx1)
      have HI1 := hid i1; have HI2 := hid i2; have HZ4 := hid hz4
      clear hx1 hx2 i1 i2 hz4
      have hk0 : (0 : Int) ≤ (k : Int) := by omega
      have hk1 : (k : Int) < (xs.length : Int) := by omega
      go_wp2_with fail
      refine (eqfn_same A' B' z c1 c2 _ HI1.out HI2.out HZ4.out).mono ?_
      rintro e w1 ⟨rfl, hb⟩
      have HB1 := hid (Below.step HW.out hb); clear hb
      go_wp2
      go_roundw
      case rel => exact ⟨k + 1, by omega, by go_num, HB1⟩
      case measure => simp [intOf]; omega
    · obtain rfl : k = xs.length := by omega
      go_wp2
      go_ret
      exact ⟨rfl, HW.out⟩
set_option maxHeartbeats 1000000 in
theorem same_same (A B : Option Addr) (xs : List (List Int)) (c d : Nat) (w : World) (hA : LogAt w A xs) (hB : LogAt w B xs) (hl : xs.length ≤ 4000) (hz : ∀ z ∈ xs, z.length ≤ 4000) :
    Calls Try.prog 38 #[.slice A xs.length c, .slice B xs.length d] w fun e w' => e = .returned (.bool true) ∧ Below w.heap.size w w' := by
  have H := hid (eqfunc_same A B xs c d w hA hB hl hz)
  clear hA hB hz hl
  go_enter Try.func38, Try.ntmps38
  go_wp2_with fail
  refine H.out.mono ?_
  rintro e w1 ⟨rfl, hb⟩
  have HB := hid hb; clear hb
  go_wp2
  go_ret
  exact ⟨rfl, HB.out⟩
end Go.Proofs.Ytjefhconahdbiaa
