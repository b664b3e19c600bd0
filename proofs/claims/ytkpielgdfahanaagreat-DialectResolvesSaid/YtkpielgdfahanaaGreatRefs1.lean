/- The reference's Letters and commands. -/
import Derived.Test.YtkpielgdfahanaaGreatIndex
namespace Go.Proofs.YtkpielgdfahanaaGreat
open Go.RowKit Go.Maps

theorem rletters1 (w : World) : Calls Tryz.prog 17 #[.int .i64 1] w fun e w' => e = .returned (.string (letS 1)) ∧ w = w' := by
  go_enter Tryz.func17, Tryz.ntmps17
  go_wp2
  go_ret
  exact ⟨rfl, rfl⟩
theorem rletters2 (w : World) : Calls Tryz.prog 17 #[.int .i64 2] w fun e w' => e = .returned (.string (letS 2)) ∧ w = w' := by
  go_enter Tryz.func17, Tryz.ntmps17
  go_wp2
  go_ret
  exact ⟨rfl, rfl⟩
theorem rletters3 (w : World) : Calls Tryz.prog 17 #[.int .i64 3] w fun e w' => e = .returned (.string (letS 3)) ∧ w = w' := by
  go_enter Tryz.func17, Tryz.ntmps17
  go_wp2
  go_ret
  exact ⟨rfl, rfl⟩
theorem rletters4 (w : World) : Calls Tryz.prog 17 #[.int .i64 4] w fun e w' => e = .returned (.string (letS 4)) ∧ w = w' := by
  go_enter Tryz.func17, Tryz.ntmps17
  go_wp2
  go_ret
  exact ⟨rfl, rfl⟩
theorem rletters5 (w : World) : Calls Tryz.prog 17 #[.int .i64 5] w fun e w' => e = .returned (.string (letS 5)) ∧ w = w' := by
  go_enter Tryz.func17, Tryz.ntmps17
  go_wp2
  go_ret
  exact ⟨rfl, rfl⟩
theorem rletters6 (w : World) : Calls Tryz.prog 17 #[.int .i64 6] w fun e w' => e = .returned (.string (letS 6)) ∧ w = w' := by
  go_enter Tryz.func17, Tryz.ntmps17
  go_wp2
  go_ret
  exact ⟨rfl, rfl⟩
theorem rletters_any (d : Int) (w : World) : Calls Tryz.prog 17 #[.int .i64 d] w fun e w' => e = .returned (.string (letS d)) ∧ w = w' := by
  by_cases h : d = 1 ∨ d = 2 ∨ d = 3 ∨ d = 4 ∨ d = 5 ∨ d = 6
  · rcases h with rfl | rfl | rfl | rfl | rfl | rfl
    · exact rletters1 w
    · exact rletters2 w
    · exact rletters3 w
    · exact rletters4 w
    · exact rletters5 w
    · exact rletters6 w
  · have he : letS d = ⟨#[]⟩ := by unfold letS; simp only [not_or] at h; simp [h]
    have e1 : (d == 1) = false := beq_false (fun e => h (by simp [e]))
    have e2 : (d == 2) = false := beq_false (fun e => h (by simp [e]))
    have e3 : (d == 3) = false := beq_false (fun e => h (by simp [e]))
    have e4 : (d == 4) = false := beq_false (fun e => h (by simp [e]))
    have e5 : (d == 5) = false := beq_false (fun e => h (by simp [e]))
    have e6 : (d == 6) = false := beq_false (fun e => h (by simp [e]))
    rw [he]
    clear h he
    go_enter Tryz.func17, Tryz.ntmps17
    go_wp2
    go_ret
    exact ⟨rfl, rfl⟩
theorem rcommands2 (w : World) : Calls Tryz.prog 26 #[.int .i64 2] w fun e w' => e = .returned (.int .i64 (volC 2)) ∧ w = w' := by
  go_enter Tryz.func26, Tryz.ntmps26
  go_wp2
  go_ret
  exact ⟨rfl, rfl⟩
theorem rcommands3 (w : World) : Calls Tryz.prog 26 #[.int .i64 3] w fun e w' => e = .returned (.int .i64 (volC 3)) ∧ w = w' := by
  go_enter Tryz.func26, Tryz.ntmps26
  go_wp2
  go_ret
  exact ⟨rfl, rfl⟩
theorem rcommands4 (w : World) : Calls Tryz.prog 26 #[.int .i64 4] w fun e w' => e = .returned (.int .i64 (volC 4)) ∧ w = w' := by
  go_enter Tryz.func26, Tryz.ntmps26
  go_wp2
  go_ret
  exact ⟨rfl, rfl⟩
theorem rcommands_any (d : Int) (w : World) : Calls Tryz.prog 26 #[.int .i64 d] w fun e w' => e = .returned (.int .i64 (volC d)) ∧ w = w' := by
  by_cases h : d = 2 ∨ d = 3 ∨ d = 4
  · rcases h with rfl | rfl | rfl
    · exact rcommands2 w
    · exact rcommands3 w
    · exact rcommands4 w
  · have he : volC d = 0 := by unfold volC; simp only [not_or] at h; simp [h]
    have e2 : (d == 2) = false := beq_false (fun e => h (by simp [e]))
    have e3 : (d == 3) = false := beq_false (fun e => h (by simp [e]))
    have e4 : (d == 4) = false := beq_false (fun e => h (by simp [e]))
    rw [he]
    clear h he
    go_enter Tryz.func26, Tryz.ntmps26
    go_wp2
    go_ret
    exact ⟨rfl, rfl⟩
end Go.Proofs.YtkpielgdfahanaaGreat
