/- The seed's next value, floordiv, clamp, level and end: what they compute. -/
import Derived.Test.YtjefhconahdbiaaAdd7
import Derived.Test.YtjefhconahdbiaaLog
namespace Go.Proofs.Ytjefhconahdbiaa
open Go.RowKit

theorem and_mask31 (n : Int) : bits .and .i64 n 2147483647 = n % 2147483648 := by
  have h127 : (BitVec.ofInt 64 2147483647).toNat = 2 ^ 31 - 1 := by decide
  have key : (BitVec.ofInt 64 n &&& BitVec.ofInt 64 2147483647).toNat = (n % ((2 ^ 64 : Nat) : Int)).toNat % 2 ^ 31 := by
    rw [BitVec.toNat_and, BitVec.toNat_ofInt, h127, Nat.and_two_pow_sub_one_eq_mod]
  show IntKind.i64.wrap ((BitVec.ofInt 64 n &&& BitVec.ofInt 64 2147483647).toNat : Nat) = n % 2147483648
  rw [key, IntKind.wrap_i64]
  omega
theorem and_mask8 (n : Int) : bits .and .i64 n 255 = n % 256 := by
  have h127 : (BitVec.ofInt 64 255).toNat = 2 ^ 8 - 1 := by decide
  have key : (BitVec.ofInt 64 n &&& BitVec.ofInt 64 255).toNat = (n % ((2 ^ 64 : Nat) : Int)).toNat % 2 ^ 8 := by
    rw [BitVec.toNat_and, BitVec.toNat_ofInt, h127, Nat.and_two_pow_sub_one_eq_mod]
  show IntKind.i64.wrap ((BitVec.ofInt 64 n &&& BitVec.ofInt 64 255).toNat : Nat) = n % 256
  rw [key, IntKind.wrap_i64]
  omega
def nxt (s : Int) : Int := (s * 1103515245 + 12345) % 2147483648
set_option maxHeartbeats 1000000 in
set_option maxRecDepth 100000 in
theorem next_any (s : Int) (w : World) (h0 : 0 ≤ s) (h1 : s ≤ 2147483647) :
    Calls Try.prog 90 #[.int .i64 s] w fun e w' => e = .returned (.int .i64 (nxt s)) ∧ w = w' := by
  have H : Hid (bits BinOp.and IntKind.i64 (s * 1103515245 + 12345) 2147483647 = nxt s) := hid (and_mask31 _)
  go_enter Try.func90, Try.ntmps90
  go_wp2
  go_ret
  exact ⟨ret_int H.out, rfl⟩
set_option maxHeartbeats 1000000 in
set_option maxRecDepth 100000 in
theorem refnext_any (s : Int) (w : World) (h0 : 0 ≤ s) (h1 : s ≤ 2147483647) :
    Calls Try.prog 92 #[.int .i64 s] w fun e w' => e = .returned (.int .i64 (nxt s)) ∧ w = w' := by
  have H : Hid (bits BinOp.and IntKind.i64 (s * 1103515245 + 12345) 2147483647 = nxt s) := hid (and_mask31 _)
  go_enter Try.func92, Try.ntmps92
  go_wp2
  go_ret
  exact ⟨ret_int H.out, rfl⟩
theorem nxt_lo (s : Int) : 0 ≤ nxt s := by unfold nxt; omega
theorem nxt_hi (s : Int) : nxt s ≤ 2147483647 := by unfold nxt; omega
def clampI (x lo hi : Int) : Int := max lo (min hi x)
theorem clamp_any (x lo hi : Int) (w : World) :
    Calls Try.prog 91 #[.int .i64 x, .int .i64 lo, .int .i64 hi] w fun e w' => e = .returned (.int .i64 (clampI x lo hi)) ∧ w = w' := by
  go_enter Try.func91, Try.ntmps91
  go_wp2
  all_goals
    rename_i h1
    go_ret
    refine ⟨ret_int ?_, rfl⟩
    unfold clampI
    split at h1 <;> omega
theorem floor_lo {a b : Int} (hb : 0 < b) (h : Int.tmod a b < 0) : a.tdiv b - 1 = a / b := by
  have h1 : ¬ (0 ≤ a ∨ b ∣ a) := by
    intro h'
    rw [Int.tmod_eq_emod, if_pos h'] at h
    have := Int.emod_nonneg a (show b ≠ 0 by omega)
    omega
  rw [Int.tdiv_eq_ediv, if_neg h1, Int.sign_eq_one_of_pos hb]
  omega
theorem floor_hi {a b : Int} (hb : 0 < b) (h : ¬ Int.tmod a b < 0) : a.tdiv b = a / b := by
  have h1 : 0 ≤ a ∨ b ∣ a := by
    apply Classical.byContradiction
    intro h'
    rw [Int.tmod_eq_emod, if_neg h'] at h
    have := Int.emod_lt_of_pos a hb
    omega
  rw [Int.tdiv_eq_ediv, if_pos h1]
  omega
set_option maxHeartbeats 1000000 in
theorem floordiv_any (a b : Int) (w : World) (hb : 0 < b) (h1 : -9000000000000000000 < a) (h2 : a < 9000000000000000000) :
    Calls Try.prog 76 #[.int .i64 a, .int .i64 b] w fun e w' => e = .returned (.int .i64 (a / b)) ∧ w = w' := by
  have hd1 : a / b < 9000000000000000000 := by
    rcases Int.lt_or_le a 0 with h | h
    · have := Int.ediv_neg_of_neg_of_pos h hb; omega
    · have := Int.ediv_le_self b h; omega
  have hd2 : -9000000000000000000 ≤ a / b := by
    rcases Int.lt_or_le a 0 with h | h
    · rw [Int.le_ediv_iff_mul_le hb]
      have : -9000000000000000000 * b ≤ -9000000000000000000 * 1 := Int.mul_le_mul_of_nonpos_left (by omega) (by omega)
      omega
    · have := Int.ediv_nonneg h (show 0 ≤ b by omega); omega
  by_cases hr : Int.tmod a b < 0
  · have hf := floor_lo hb hr
    have H : Hid (wrap64 (a.tdiv b - 1) = a / b) := hid (by rw [hf]; exact IntWalk.wrap64_in _ ⟨by omega, by omega⟩)
    clear hf hd1 hd2
    go_enter Try.func76, Try.ntmps76
    go_wp2
    go_ret
    exact ⟨ret_int H.out, rfl⟩
  · have hf := floor_hi hb hr
    have H := hid hf
    clear hf hd1 hd2
    go_enter Try.func76, Try.ntmps76
    go_wp2
    go_ret
    exact ⟨ret_int H.out, rfl⟩
end Go.Proofs.Ytjefhconahdbiaa
