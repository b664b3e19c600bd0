/- The reference's side of the register logs: in, RightLog, Right, entry, Differ, Writes; the law's own test of sizes. -/
import Derived.Test.YtmogoaceangblaaWrites
namespace Go.Proofs.Ytmogoaceangblaa
open Go.RowKit

set_option maxHeartbeats 400000 in
theorem refin15 (n : Int) (w : World) :
    Calls Try.prog 22 #[.int .i64 n, .int .i64 0, .int .i64 255] w fun e w' => e = .returned (.bool (inr n 0 255)) ∧ w = w' := by
  have H : ∀ c : Bool, decide (0 ≤ n) = c → Hid (inr n 0 255 = (if c then decide (n ≤ 255) else false)) := by
    intro c hc; refine hid ?_; unfold inr; rw [hc]; cases c <;> simp
  by_cases h1 : 0 ≤ n
  · have H1 := H true (decide_eq_true h1); clear H
    go_enter Try.func22, Try.ntmps22
    go_wp2
    go_ret
    exact ⟨ret_bool (by rw [H1.out]; rfl), rfl⟩
  · have H1 := H false (decide_eq_false h1); clear H
    go_enter Try.func22, Try.ntmps22
    go_wp2
    go_ret
    exact ⟨ret_bool (by rw [H1.out]; rfl), rfl⟩

set_option maxHeartbeats 4000000 in
set_option maxRecDepth 100000 in
theorem rightlog_any (A : Option Addr) (xs : List (List Int)) (c : Nat) (w : World) (hx : LogAt w A xs) (hn : xs.length ≤ 4000) :
    Calls Try.prog 10 #[.slice A xs.length c] w fun e w' => e = .returned (.bool (xs.all right)) ∧ Below w.heap.size w w' := by
  have HX := hid hx; clear hx
  go_enter Try.func10, Try.ntmps10
  go_wp2
  go_loopg [9] xs.length (fun g i wr => ∃ k : Nat, k ≤ xs.length ∧ g = xs.length - k ∧ i = .int .i64 k ∧ Hid (Below w.heap.size w wr) ∧ Hid ((xs.take k).all right = true))
  case atStart => exact ⟨0, Nat.zero_le _, rfl, rfl, hid (Below.refl _ _), hid rfl⟩
  case round =>
    obtain ⟨k, hk, rfl, rfl, HB, HR⟩ := hrel
    by_cases hlt : k < xs.length
    · obtain ⟨b, off, B, c', z, rfl, hxk, hc1, hc2⟩ := (HX.out.below HB.out) k hlt
      have HXK := hid hxk; clear hxk
      by_cases h14 : z.length = 14
      · obtain ⟨b', off', rfl, hra⟩ := hc2 (by omega)
        have HRA := hid hra; clear hra hc2
        rw [h14] at hc1
        have H14 := hid h14; clear h14
        have hk4 : k < 4000 := by omega
        go_wp2
        clear hc1
        go_loopg [18] 14 (fun g i wi => wi = wr ∧ ∃ j : Nat, j ≤ 14 ∧ g = 14 - j ∧ i = .int .i64 j ∧ Hid (∀ t v, t < j → z[t]? = some v → inr v 0 255 = true))
        case atStart => exact ⟨rfl, 0, by omega, rfl, rfl, hid (fun t v h => by omega)⟩
        case round =>
          obtain ⟨rfl, j, hj, rfl, rfl, HJ⟩ := hrel
          by_cases hjl : j < 14
          · obtain ⟨v, hv⟩ : ∃ v, z[j]? = some v := ⟨_, List.getElem?_eq_getElem (by have := H14.out; omega)⟩
            have hcv := HRA.out j (.int .i64 v) (icells_at hv)
            have HV := hid hv; clear hv
            have hj0 : (0 : Int) ≤ (j : Int) := Int.natCast_nonneg _
            have hj1 : (j : Int) < 14 := by omega
            cases hin : inr v 0 255 with
            | true =>
              have HI := hid hin; clear hin
              go_wp2_with fail
              refine (refin15 v _).mono ?_
              rintro e w1 ⟨rfl, rfl⟩
              rw [HI.out]
              go_wp2
              go_roundg (14 - (j + 1))
              case measure => omega
              case rel =>
                refine ⟨rfl, j + 1, by omega, rfl, by go_num, hid (fun t y ht hy => ?_)⟩
                by_cases e : t = j
                · subst e; rw [HV.out] at hy; cases hy; exact HI.out
                · exact HJ.out t y (by omega) hy
            | false =>
              have HI := hid hin; clear hin
              go_wp2_with fail
              refine (refin15 v _).mono ?_
              rintro e w1 ⟨rfl, rfl⟩
              rw [HI.out]
              go_wp2
              go_ret
              exact ⟨ret_bool (all_false_of HXK.out (right_no HV.out HI.out)).symm, HB.out⟩
          · obtain rfl : j = 14 := by omega
            go_wp2
            go_roundg (xs.length - (k + 1))
            case measure => omega
            case rel =>
              refine ⟨k + 1, by omega, rfl, by go_num, HB.out, hid (all_take_succ HXK.out HR.out ?_)⟩
              unfold right
              rw [beq_iff_eq.2 H14.out, Bool.true_and, List.all_eq_true]
              intro v hv
              obtain ⟨t, ht, rfl⟩ := List.getElem_of_mem hv
              exact HJ.out t _ (by have := H14.out; omega) (List.getElem?_eq_getElem ht)
      · have hne : ((z.length : Int) != 14) = true := by rw [bne_iff_ne]; omega
        have H14 := hid h14; clear h14
        go_wp2
        go_ret
        exact ⟨ret_bool (all_false_of HXK.out (by have := H14.out; unfold right; rw [beq_eq_false_iff_ne.2 this]; rfl)).symm, HB.out⟩
    · obtain rfl : k = xs.length := by omega
      go_wp2
      go_ret
      exact ⟨ret_bool (by have := HR.out; rw [List.take_length] at this; exact this.symm), HB.out⟩

set_option maxHeartbeats 400000 in
theorem refright_any (A : Option Addr) (xs : List (List Int)) (c : Nat) (w : World) (hx : LogAt w A xs) :
    Calls Try.prog 5 #[.slice A xs.length c] w fun e w' => e = .returned (.bool (okLog xs)) ∧ Below w.heap.size w w' := by
  have HX := hid hx; clear hx
  have H : ∀ b : Bool, decide (xs.length ≤ 4000) = b → Hid (okLog xs = (if b then xs.all right else false)) := by
    intro b hb; refine hid ?_; unfold okLog; rw [hb]; cases b <;> simp
  by_cases h : xs.length ≤ 4000
  · have H1 := H _ (decide_eq_true h); clear H
    have hd : decide ((xs.length : Int) ≤ 4000) = true := decide_eq_true (by omega)
    have HN := hid h; clear h
    go_enter Try.func5, Try.ntmps5
    go_wp2_with fail
    refine (rightlog_any A xs c _ HX.out HN.out).mono ?_
    rintro e w1 ⟨rfl, hb⟩
    have HB := hid hb; clear hb
    go_wp2
    go_ret
    exact ⟨ret_bool (by rw [H1.out]; rfl), HB.out⟩
  · have H1 := H _ (decide_eq_false h); clear H
    have hd : decide ((xs.length : Int) ≤ 4000) = false := decide_eq_false (by omega)
    have HN := hid h; clear h
    go_enter Try.func5, Try.ntmps5
    go_wp2
    go_ret
    exact ⟨ret_bool (by rw [H1.out]; rfl), Below.refl _ _⟩
end Go.Proofs.Ytmogoaceangblaa
