/- The letter of an effect, in the program and in the reference. -/
import Derived.Test.YtkpielgdfahanaaGreatRefs1
namespace Go.Proofs.YtkpielgdfahanaaGreat
open Go.RowKit Go.Maps

/-- The character of an effect from 1 to 36. -/
def letN (e : Int) : Int := if e ≤ 10 then 47 + e else 54 + e
theorem plet1 (w : World) : Calls Tryz.prog 23 #[.int .i64 1] w fun x w' => x = .returned (.int .u8 (letN 1)) ∧ w = w' := by
  go_enter Tryz.func23, Tryz.ntmps23
  go_wp2
  go_ret
  exact ⟨rfl, rfl⟩
theorem plet2 (w : World) : Calls Tryz.prog 23 #[.int .i64 2] w fun x w' => x = .returned (.int .u8 (letN 2)) ∧ w = w' := by
  go_enter Tryz.func23, Tryz.ntmps23
  go_wp2
  go_ret
  exact ⟨rfl, rfl⟩
theorem plet3 (w : World) : Calls Tryz.prog 23 #[.int .i64 3] w fun x w' => x = .returned (.int .u8 (letN 3)) ∧ w = w' := by
  go_enter Tryz.func23, Tryz.ntmps23
  go_wp2
  go_ret
  exact ⟨rfl, rfl⟩
theorem plet4 (w : World) : Calls Tryz.prog 23 #[.int .i64 4] w fun x w' => x = .returned (.int .u8 (letN 4)) ∧ w = w' := by
  go_enter Tryz.func23, Tryz.ntmps23
  go_wp2
  go_ret
  exact ⟨rfl, rfl⟩
theorem plet5 (w : World) : Calls Tryz.prog 23 #[.int .i64 5] w fun x w' => x = .returned (.int .u8 (letN 5)) ∧ w = w' := by
  go_enter Tryz.func23, Tryz.ntmps23
  go_wp2
  go_ret
  exact ⟨rfl, rfl⟩
theorem plet6 (w : World) : Calls Tryz.prog 23 #[.int .i64 6] w fun x w' => x = .returned (.int .u8 (letN 6)) ∧ w = w' := by
  go_enter Tryz.func23, Tryz.ntmps23
  go_wp2
  go_ret
  exact ⟨rfl, rfl⟩
theorem plet7 (w : World) : Calls Tryz.prog 23 #[.int .i64 7] w fun x w' => x = .returned (.int .u8 (letN 7)) ∧ w = w' := by
  go_enter Tryz.func23, Tryz.ntmps23
  go_wp2
  go_ret
  exact ⟨rfl, rfl⟩
theorem plet8 (w : World) : Calls Tryz.prog 23 #[.int .i64 8] w fun x w' => x = .returned (.int .u8 (letN 8)) ∧ w = w' := by
  go_enter Tryz.func23, Tryz.ntmps23
  go_wp2
  go_ret
  exact ⟨rfl, rfl⟩
theorem plet9 (w : World) : Calls Tryz.prog 23 #[.int .i64 9] w fun x w' => x = .returned (.int .u8 (letN 9)) ∧ w = w' := by
  go_enter Tryz.func23, Tryz.ntmps23
  go_wp2
  go_ret
  exact ⟨rfl, rfl⟩
theorem plet10 (w : World) : Calls Tryz.prog 23 #[.int .i64 10] w fun x w' => x = .returned (.int .u8 (letN 10)) ∧ w = w' := by
  go_enter Tryz.func23, Tryz.ntmps23
  go_wp2
  go_ret
  exact ⟨rfl, rfl⟩
theorem plet11 (w : World) : Calls Tryz.prog 23 #[.int .i64 11] w fun x w' => x = .returned (.int .u8 (letN 11)) ∧ w = w' := by
  go_enter Tryz.func23, Tryz.ntmps23
  go_wp2
  go_ret
  exact ⟨rfl, rfl⟩
theorem plet12 (w : World) : Calls Tryz.prog 23 #[.int .i64 12] w fun x w' => x = .returned (.int .u8 (letN 12)) ∧ w = w' := by
  go_enter Tryz.func23, Tryz.ntmps23
  go_wp2
  go_ret
  exact ⟨rfl, rfl⟩
theorem plet13 (w : World) : Calls Tryz.prog 23 #[.int .i64 13] w fun x w' => x = .returned (.int .u8 (letN 13)) ∧ w = w' := by
  go_enter Tryz.func23, Tryz.ntmps23
  go_wp2
  go_ret
  exact ⟨rfl, rfl⟩
theorem plet14 (w : World) : Calls Tryz.prog 23 #[.int .i64 14] w fun x w' => x = .returned (.int .u8 (letN 14)) ∧ w = w' := by
  go_enter Tryz.func23, Tryz.ntmps23
  go_wp2
  go_ret
  exact ⟨rfl, rfl⟩
theorem plet15 (w : World) : Calls Tryz.prog 23 #[.int .i64 15] w fun x w' => x = .returned (.int .u8 (letN 15)) ∧ w = w' := by
  go_enter Tryz.func23, Tryz.ntmps23
  go_wp2
  go_ret
  exact ⟨rfl, rfl⟩
theorem plet16 (w : World) : Calls Tryz.prog 23 #[.int .i64 16] w fun x w' => x = .returned (.int .u8 (letN 16)) ∧ w = w' := by
  go_enter Tryz.func23, Tryz.ntmps23
  go_wp2
  go_ret
  exact ⟨rfl, rfl⟩
theorem plet17 (w : World) : Calls Tryz.prog 23 #[.int .i64 17] w fun x w' => x = .returned (.int .u8 (letN 17)) ∧ w = w' := by
  go_enter Tryz.func23, Tryz.ntmps23
  go_wp2
  go_ret
  exact ⟨rfl, rfl⟩
theorem plet18 (w : World) : Calls Tryz.prog 23 #[.int .i64 18] w fun x w' => x = .returned (.int .u8 (letN 18)) ∧ w = w' := by
  go_enter Tryz.func23, Tryz.ntmps23
  go_wp2
  go_ret
  exact ⟨rfl, rfl⟩
theorem plet19 (w : World) : Calls Tryz.prog 23 #[.int .i64 19] w fun x w' => x = .returned (.int .u8 (letN 19)) ∧ w = w' := by
  go_enter Tryz.func23, Tryz.ntmps23
  go_wp2
  go_ret
  exact ⟨rfl, rfl⟩
theorem plet20 (w : World) : Calls Tryz.prog 23 #[.int .i64 20] w fun x w' => x = .returned (.int .u8 (letN 20)) ∧ w = w' := by
  go_enter Tryz.func23, Tryz.ntmps23
  go_wp2
  go_ret
  exact ⟨rfl, rfl⟩
theorem plet21 (w : World) : Calls Tryz.prog 23 #[.int .i64 21] w fun x w' => x = .returned (.int .u8 (letN 21)) ∧ w = w' := by
  go_enter Tryz.func23, Tryz.ntmps23
  go_wp2
  go_ret
  exact ⟨rfl, rfl⟩
theorem plet22 (w : World) : Calls Tryz.prog 23 #[.int .i64 22] w fun x w' => x = .returned (.int .u8 (letN 22)) ∧ w = w' := by
  go_enter Tryz.func23, Tryz.ntmps23
  go_wp2
  go_ret
  exact ⟨rfl, rfl⟩
theorem plet23 (w : World) : Calls Tryz.prog 23 #[.int .i64 23] w fun x w' => x = .returned (.int .u8 (letN 23)) ∧ w = w' := by
  go_enter Tryz.func23, Tryz.ntmps23
  go_wp2
  go_ret
  exact ⟨rfl, rfl⟩
theorem plet24 (w : World) : Calls Tryz.prog 23 #[.int .i64 24] w fun x w' => x = .returned (.int .u8 (letN 24)) ∧ w = w' := by
  go_enter Tryz.func23, Tryz.ntmps23
  go_wp2
  go_ret
  exact ⟨rfl, rfl⟩
theorem plet25 (w : World) : Calls Tryz.prog 23 #[.int .i64 25] w fun x w' => x = .returned (.int .u8 (letN 25)) ∧ w = w' := by
  go_enter Tryz.func23, Tryz.ntmps23
  go_wp2
  go_ret
  exact ⟨rfl, rfl⟩
theorem plet26 (w : World) : Calls Tryz.prog 23 #[.int .i64 26] w fun x w' => x = .returned (.int .u8 (letN 26)) ∧ w = w' := by
  go_enter Tryz.func23, Tryz.ntmps23
  go_wp2
  go_ret
  exact ⟨rfl, rfl⟩
theorem plet27 (w : World) : Calls Tryz.prog 23 #[.int .i64 27] w fun x w' => x = .returned (.int .u8 (letN 27)) ∧ w = w' := by
  go_enter Tryz.func23, Tryz.ntmps23
  go_wp2
  go_ret
  exact ⟨rfl, rfl⟩
theorem plet28 (w : World) : Calls Tryz.prog 23 #[.int .i64 28] w fun x w' => x = .returned (.int .u8 (letN 28)) ∧ w = w' := by
  go_enter Tryz.func23, Tryz.ntmps23
  go_wp2
  go_ret
  exact ⟨rfl, rfl⟩
theorem plet29 (w : World) : Calls Tryz.prog 23 #[.int .i64 29] w fun x w' => x = .returned (.int .u8 (letN 29)) ∧ w = w' := by
  go_enter Tryz.func23, Tryz.ntmps23
  go_wp2
  go_ret
  exact ⟨rfl, rfl⟩
theorem plet30 (w : World) : Calls Tryz.prog 23 #[.int .i64 30] w fun x w' => x = .returned (.int .u8 (letN 30)) ∧ w = w' := by
  go_enter Tryz.func23, Tryz.ntmps23
  go_wp2
  go_ret
  exact ⟨rfl, rfl⟩
theorem plet31 (w : World) : Calls Tryz.prog 23 #[.int .i64 31] w fun x w' => x = .returned (.int .u8 (letN 31)) ∧ w = w' := by
  go_enter Tryz.func23, Tryz.ntmps23
  go_wp2
  go_ret
  exact ⟨rfl, rfl⟩
theorem plet32 (w : World) : Calls Tryz.prog 23 #[.int .i64 32] w fun x w' => x = .returned (.int .u8 (letN 32)) ∧ w = w' := by
  go_enter Tryz.func23, Tryz.ntmps23
  go_wp2
  go_ret
  exact ⟨rfl, rfl⟩
theorem plet33 (w : World) : Calls Tryz.prog 23 #[.int .i64 33] w fun x w' => x = .returned (.int .u8 (letN 33)) ∧ w = w' := by
  go_enter Tryz.func23, Tryz.ntmps23
  go_wp2
  go_ret
  exact ⟨rfl, rfl⟩
theorem plet34 (w : World) : Calls Tryz.prog 23 #[.int .i64 34] w fun x w' => x = .returned (.int .u8 (letN 34)) ∧ w = w' := by
  go_enter Tryz.func23, Tryz.ntmps23
  go_wp2
  go_ret
  exact ⟨rfl, rfl⟩
theorem plet35 (w : World) : Calls Tryz.prog 23 #[.int .i64 35] w fun x w' => x = .returned (.int .u8 (letN 35)) ∧ w = w' := by
  go_enter Tryz.func23, Tryz.ntmps23
  go_wp2
  go_ret
  exact ⟨rfl, rfl⟩
theorem plet36 (w : World) : Calls Tryz.prog 23 #[.int .i64 36] w fun x w' => x = .returned (.int .u8 (letN 36)) ∧ w = w' := by
  go_enter Tryz.func23, Tryz.ntmps23
  go_wp2
  go_ret
  exact ⟨rfl, rfl⟩
theorem plet_any (e : Int) (h1 : 1 ≤ e) (h2 : e ≤ 36) (w : World) : Calls Tryz.prog 23 #[.int .i64 e] w fun x w' => x = .returned (.int .u8 (letN e)) ∧ w = w' := by
  have h : e = 1 ∨ e = 2 ∨ e = 3 ∨ e = 4 ∨ e = 5 ∨ e = 6 ∨ e = 7 ∨ e = 8 ∨ e = 9 ∨ e = 10 ∨ e = 11 ∨ e = 12 ∨ e = 13 ∨ e = 14 ∨ e = 15 ∨ e = 16 ∨ e = 17 ∨ e = 18 ∨ e = 19 ∨ e = 20 ∨ e = 21 ∨ e = 22 ∨ e = 23 ∨ e = 24 ∨ e = 25 ∨ e = 26 ∨ e = 27 ∨ e = 28 ∨ e = 29 ∨ e = 30 ∨ e = 31 ∨ e = 32 ∨ e = 33 ∨ e = 34 ∨ e = 35 ∨ e = 36 := by omega
  rcases h with rfl | rfl | rfl | rfl | rfl | rfl | rfl | rfl | rfl | rfl | rfl | rfl | rfl | rfl | rfl | rfl | rfl | rfl | rfl | rfl | rfl | rfl | rfl | rfl | rfl | rfl | rfl | rfl | rfl | rfl | rfl | rfl | rfl | rfl | rfl | rfl
  · exact plet1 w
  · exact plet2 w
  · exact plet3 w
  · exact plet4 w
  · exact plet5 w
  · exact plet6 w
  · exact plet7 w
  · exact plet8 w
  · exact plet9 w
  · exact plet10 w
  · exact plet11 w
  · exact plet12 w
  · exact plet13 w
  · exact plet14 w
  · exact plet15 w
  · exact plet16 w
  · exact plet17 w
  · exact plet18 w
  · exact plet19 w
  · exact plet20 w
  · exact plet21 w
  · exact plet22 w
  · exact plet23 w
  · exact plet24 w
  · exact plet25 w
  · exact plet26 w
  · exact plet27 w
  · exact plet28 w
  · exact plet29 w
  · exact plet30 w
  · exact plet31 w
  · exact plet32 w
  · exact plet33 w
  · exact plet34 w
  · exact plet35 w
  · exact plet36 w
theorem rlet1 (w : World) : Calls Tryz.prog 28 #[.int .i64 1] w fun x w' => x = .returned (.int .u8 (letN 1)) ∧ w = w' := by
  go_enter Tryz.func28, Tryz.ntmps28
  go_wp2
  go_ret
  exact ⟨rfl, rfl⟩
theorem rlet2 (w : World) : Calls Tryz.prog 28 #[.int .i64 2] w fun x w' => x = .returned (.int .u8 (letN 2)) ∧ w = w' := by
  go_enter Tryz.func28, Tryz.ntmps28
  go_wp2
  go_ret
  exact ⟨rfl, rfl⟩
theorem rlet3 (w : World) : Calls Tryz.prog 28 #[.int .i64 3] w fun x w' => x = .returned (.int .u8 (letN 3)) ∧ w = w' := by
  go_enter Tryz.func28, Tryz.ntmps28
  go_wp2
  go_ret
  exact ⟨rfl, rfl⟩
theorem rlet4 (w : World) : Calls Tryz.prog 28 #[.int .i64 4] w fun x w' => x = .returned (.int .u8 (letN 4)) ∧ w = w' := by
  go_enter Tryz.func28, Tryz.ntmps28
  go_wp2
  go_ret
  exact ⟨rfl, rfl⟩
theorem rlet5 (w : World) : Calls Tryz.prog 28 #[.int .i64 5] w fun x w' => x = .returned (.int .u8 (letN 5)) ∧ w = w' := by
  go_enter Tryz.func28, Tryz.ntmps28
  go_wp2
  go_ret
  exact ⟨rfl, rfl⟩
theorem rlet6 (w : World) : Calls Tryz.prog 28 #[.int .i64 6] w fun x w' => x = .returned (.int .u8 (letN 6)) ∧ w = w' := by
  go_enter Tryz.func28, Tryz.ntmps28
  go_wp2
  go_ret
  exact ⟨rfl, rfl⟩
theorem rlet7 (w : World) : Calls Tryz.prog 28 #[.int .i64 7] w fun x w' => x = .returned (.int .u8 (letN 7)) ∧ w = w' := by
  go_enter Tryz.func28, Tryz.ntmps28
  go_wp2
  go_ret
  exact ⟨rfl, rfl⟩
theorem rlet8 (w : World) : Calls Tryz.prog 28 #[.int .i64 8] w fun x w' => x = .returned (.int .u8 (letN 8)) ∧ w = w' := by
  go_enter Tryz.func28, Tryz.ntmps28
  go_wp2
  go_ret
  exact ⟨rfl, rfl⟩
theorem rlet9 (w : World) : Calls Tryz.prog 28 #[.int .i64 9] w fun x w' => x = .returned (.int .u8 (letN 9)) ∧ w = w' := by
  go_enter Tryz.func28, Tryz.ntmps28
  go_wp2
  go_ret
  exact ⟨rfl, rfl⟩
theorem rlet10 (w : World) : Calls Tryz.prog 28 #[.int .i64 10] w fun x w' => x = .returned (.int .u8 (letN 10)) ∧ w = w' := by
  go_enter Tryz.func28, Tryz.ntmps28
  go_wp2
  go_ret
  exact ⟨rfl, rfl⟩
theorem rlet11 (w : World) : Calls Tryz.prog 28 #[.int .i64 11] w fun x w' => x = .returned (.int .u8 (letN 11)) ∧ w = w' := by
  go_enter Tryz.func28, Tryz.ntmps28
  go_wp2
  go_ret
  exact ⟨rfl, rfl⟩
theorem rlet12 (w : World) : Calls Tryz.prog 28 #[.int .i64 12] w fun x w' => x = .returned (.int .u8 (letN 12)) ∧ w = w' := by
  go_enter Tryz.func28, Tryz.ntmps28
  go_wp2
  go_ret
  exact ⟨rfl, rfl⟩
theorem rlet13 (w : World) : Calls Tryz.prog 28 #[.int .i64 13] w fun x w' => x = .returned (.int .u8 (letN 13)) ∧ w = w' := by
  go_enter Tryz.func28, Tryz.ntmps28
  go_wp2
  go_ret
  exact ⟨rfl, rfl⟩
theorem rlet14 (w : World) : Calls Tryz.prog 28 #[.int .i64 14] w fun x w' => x = .returned (.int .u8 (letN 14)) ∧ w = w' := by
  go_enter Tryz.func28, Tryz.ntmps28
  go_wp2
  go_ret
  exact ⟨rfl, rfl⟩
theorem rlet15 (w : World) : Calls Tryz.prog 28 #[.int .i64 15] w fun x w' => x = .returned (.int .u8 (letN 15)) ∧ w = w' := by
  go_enter Tryz.func28, Tryz.ntmps28
  go_wp2
  go_ret
  exact ⟨rfl, rfl⟩
theorem rlet16 (w : World) : Calls Tryz.prog 28 #[.int .i64 16] w fun x w' => x = .returned (.int .u8 (letN 16)) ∧ w = w' := by
  go_enter Tryz.func28, Tryz.ntmps28
  go_wp2
  go_ret
  exact ⟨rfl, rfl⟩
theorem rlet17 (w : World) : Calls Tryz.prog 28 #[.int .i64 17] w fun x w' => x = .returned (.int .u8 (letN 17)) ∧ w = w' := by
  go_enter Tryz.func28, Tryz.ntmps28
  go_wp2
  go_ret
  exact ⟨rfl, rfl⟩
theorem rlet18 (w : World) : Calls Tryz.prog 28 #[.int .i64 18] w fun x w' => x = .returned (.int .u8 (letN 18)) ∧ w = w' := by
  go_enter Tryz.func28, Tryz.ntmps28
  go_wp2
  go_ret
  exact ⟨rfl, rfl⟩
theorem rlet19 (w : World) : Calls Tryz.prog 28 #[.int .i64 19] w fun x w' => x = .returned (.int .u8 (letN 19)) ∧ w = w' := by
  go_enter Tryz.func28, Tryz.ntmps28
  go_wp2
  go_ret
  exact ⟨rfl, rfl⟩
theorem rlet20 (w : World) : Calls Tryz.prog 28 #[.int .i64 20] w fun x w' => x = .returned (.int .u8 (letN 20)) ∧ w = w' := by
  go_enter Tryz.func28, Tryz.ntmps28
  go_wp2
  go_ret
  exact ⟨rfl, rfl⟩
theorem rlet21 (w : World) : Calls Tryz.prog 28 #[.int .i64 21] w fun x w' => x = .returned (.int .u8 (letN 21)) ∧ w = w' := by
  go_enter Tryz.func28, Tryz.ntmps28
  go_wp2
  go_ret
  exact ⟨rfl, rfl⟩
theorem rlet22 (w : World) : Calls Tryz.prog 28 #[.int .i64 22] w fun x w' => x = .returned (.int .u8 (letN 22)) ∧ w = w' := by
  go_enter Tryz.func28, Tryz.ntmps28
  go_wp2
  go_ret
  exact ⟨rfl, rfl⟩
theorem rlet23 (w : World) : Calls Tryz.prog 28 #[.int .i64 23] w fun x w' => x = .returned (.int .u8 (letN 23)) ∧ w = w' := by
  go_enter Tryz.func28, Tryz.ntmps28
  go_wp2
  go_ret
  exact ⟨rfl, rfl⟩
theorem rlet24 (w : World) : Calls Tryz.prog 28 #[.int .i64 24] w fun x w' => x = .returned (.int .u8 (letN 24)) ∧ w = w' := by
  go_enter Tryz.func28, Tryz.ntmps28
  go_wp2
  go_ret
  exact ⟨rfl, rfl⟩
theorem rlet25 (w : World) : Calls Tryz.prog 28 #[.int .i64 25] w fun x w' => x = .returned (.int .u8 (letN 25)) ∧ w = w' := by
  go_enter Tryz.func28, Tryz.ntmps28
  go_wp2
  go_ret
  exact ⟨rfl, rfl⟩
theorem rlet26 (w : World) : Calls Tryz.prog 28 #[.int .i64 26] w fun x w' => x = .returned (.int .u8 (letN 26)) ∧ w = w' := by
  go_enter Tryz.func28, Tryz.ntmps28
  go_wp2
  go_ret
  exact ⟨rfl, rfl⟩
theorem rlet27 (w : World) : Calls Tryz.prog 28 #[.int .i64 27] w fun x w' => x = .returned (.int .u8 (letN 27)) ∧ w = w' := by
  go_enter Tryz.func28, Tryz.ntmps28
  go_wp2
  go_ret
  exact ⟨rfl, rfl⟩
theorem rlet28 (w : World) : Calls Tryz.prog 28 #[.int .i64 28] w fun x w' => x = .returned (.int .u8 (letN 28)) ∧ w = w' := by
  go_enter Tryz.func28, Tryz.ntmps28
  go_wp2
  go_ret
  exact ⟨rfl, rfl⟩
theorem rlet29 (w : World) : Calls Tryz.prog 28 #[.int .i64 29] w fun x w' => x = .returned (.int .u8 (letN 29)) ∧ w = w' := by
  go_enter Tryz.func28, Tryz.ntmps28
  go_wp2
  go_ret
  exact ⟨rfl, rfl⟩
theorem rlet30 (w : World) : Calls Tryz.prog 28 #[.int .i64 30] w fun x w' => x = .returned (.int .u8 (letN 30)) ∧ w = w' := by
  go_enter Tryz.func28, Tryz.ntmps28
  go_wp2
  go_ret
  exact ⟨rfl, rfl⟩
theorem rlet31 (w : World) : Calls Tryz.prog 28 #[.int .i64 31] w fun x w' => x = .returned (.int .u8 (letN 31)) ∧ w = w' := by
  go_enter Tryz.func28, Tryz.ntmps28
  go_wp2
  go_ret
  exact ⟨rfl, rfl⟩
theorem rlet32 (w : World) : Calls Tryz.prog 28 #[.int .i64 32] w fun x w' => x = .returned (.int .u8 (letN 32)) ∧ w = w' := by
  go_enter Tryz.func28, Tryz.ntmps28
  go_wp2
  go_ret
  exact ⟨rfl, rfl⟩
theorem rlet33 (w : World) : Calls Tryz.prog 28 #[.int .i64 33] w fun x w' => x = .returned (.int .u8 (letN 33)) ∧ w = w' := by
  go_enter Tryz.func28, Tryz.ntmps28
  go_wp2
  go_ret
  exact ⟨rfl, rfl⟩
theorem rlet34 (w : World) : Calls Tryz.prog 28 #[.int .i64 34] w fun x w' => x = .returned (.int .u8 (letN 34)) ∧ w = w' := by
  go_enter Tryz.func28, Tryz.ntmps28
  go_wp2
  go_ret
  exact ⟨rfl, rfl⟩
theorem rlet35 (w : World) : Calls Tryz.prog 28 #[.int .i64 35] w fun x w' => x = .returned (.int .u8 (letN 35)) ∧ w = w' := by
  go_enter Tryz.func28, Tryz.ntmps28
  go_wp2
  go_ret
  exact ⟨rfl, rfl⟩
theorem rlet36 (w : World) : Calls Tryz.prog 28 #[.int .i64 36] w fun x w' => x = .returned (.int .u8 (letN 36)) ∧ w = w' := by
  go_enter Tryz.func28, Tryz.ntmps28
  go_wp2
  go_ret
  exact ⟨rfl, rfl⟩
theorem rlet_any (e : Int) (h1 : 1 ≤ e) (h2 : e ≤ 36) (w : World) : Calls Tryz.prog 28 #[.int .i64 e] w fun x w' => x = .returned (.int .u8 (letN e)) ∧ w = w' := by
  have h : e = 1 ∨ e = 2 ∨ e = 3 ∨ e = 4 ∨ e = 5 ∨ e = 6 ∨ e = 7 ∨ e = 8 ∨ e = 9 ∨ e = 10 ∨ e = 11 ∨ e = 12 ∨ e = 13 ∨ e = 14 ∨ e = 15 ∨ e = 16 ∨ e = 17 ∨ e = 18 ∨ e = 19 ∨ e = 20 ∨ e = 21 ∨ e = 22 ∨ e = 23 ∨ e = 24 ∨ e = 25 ∨ e = 26 ∨ e = 27 ∨ e = 28 ∨ e = 29 ∨ e = 30 ∨ e = 31 ∨ e = 32 ∨ e = 33 ∨ e = 34 ∨ e = 35 ∨ e = 36 := by omega
  rcases h with rfl | rfl | rfl | rfl | rfl | rfl | rfl | rfl | rfl | rfl | rfl | rfl | rfl | rfl | rfl | rfl | rfl | rfl | rfl | rfl | rfl | rfl | rfl | rfl | rfl | rfl | rfl | rfl | rfl | rfl | rfl | rfl | rfl | rfl | rfl | rfl
  · exact rlet1 w
  · exact rlet2 w
  · exact rlet3 w
  · exact rlet4 w
  · exact rlet5 w
  · exact rlet6 w
  · exact rlet7 w
  · exact rlet8 w
  · exact rlet9 w
  · exact rlet10 w
  · exact rlet11 w
  · exact rlet12 w
  · exact rlet13 w
  · exact rlet14 w
  · exact rlet15 w
  · exact rlet16 w
  · exact rlet17 w
  · exact rlet18 w
  · exact rlet19 w
  · exact rlet20 w
  · exact rlet21 w
  · exact rlet22 w
  · exact rlet23 w
  · exact rlet24 w
  · exact rlet25 w
  · exact rlet26 w
  · exact rlet27 w
  · exact rlet28 w
  · exact rlet29 w
  · exact rlet30 w
  · exact rlet31 w
  · exact rlet32 w
  · exact rlet33 w
  · exact rlet34 w
  · exact rlet35 w
  · exact rlet36 w
end Go.Proofs.YtkpielgdfahanaaGreat
