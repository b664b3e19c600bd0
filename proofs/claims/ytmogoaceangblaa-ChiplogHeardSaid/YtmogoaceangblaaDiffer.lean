/- The reference's entry, Differ, Writes of a log; the law's test of sizes. -/
import Derived.Test.YtmogoaceangblaaRefLog
namespace Go.Proofs.Ytmogoaceangblaa
open Go.RowKit

theorem ownsRow_below {w w' : World} {base : Nat} {e : TypeId} {sz n : Nat} {v : Value} {xs : List Value} (h : w.ownsRow base e sz v n xs) (hb : Below w.heap.size w w') : w'.ownsRow base e sz v n xs := by
  refine ⟨h.1, ?_⟩
  rcases h.2 with h' | ⟨g, cap, cur, h1, h2, h3, h4⟩
  · exact Or.inl h'
  · exact Or.inr ⟨g, cap, cur, h1, h2, by rw [hb.block g (by rw [Array.getElem?_eq_some_iff] at h3; exact h3.1)]; exact h3, h4⟩
def RefEntry (z : List Int) (w : World) (e : Ending) (w' : World) : Prop :=
  ∃ B c, e = .returned (.slice B 14 c) ∧ IntsAt w' B z ∧ Below w.heap.size w w'
def tameLog (xs : List (List Int)) : Bool := decide (xs.length ≤ 600) && xs.all fun z => decide (z.length ≤ 40)
set_option maxHeartbeats 4000000 in
set_option maxRecDepth 100000 in
theorem tame_any (A : Option Addr) (xs : List (List Int)) (c : Nat) (w : World) (hx : LogAt w A xs) :
    Calls Try.prog 4 #[.slice A xs.length c] w fun e w' => e = .returned (.bool (tameLog xs)) ∧ Below w.heap.size w w' := by
  have HX := hid hx; clear hx
  have H : ∀ b : Bool, decide (xs.length ≤ 600) = b → Hid (tameLog xs = (if b then xs.all fun z => decide (z.length ≤ 40) else false)) := by
    intro b hb; refine hid ?_; unfold tameLog; rw [hb]; cases b <;> simp
  by_cases h : xs.length ≤ 600
  · have H1 := H _ (decide_eq_true h); clear H
    have hd : decide (600 < (xs.length : Int)) = false := decide_eq_false (by omega)
    go_enter Try.func4, Try.ntmps4
    go_wp2
    go_loopw [10] (fun i wr => ∃ k : Nat, k ≤ xs.length ∧ i = .int .i64 k ∧ Hid (Below w.heap.size w wr) ∧ Hid (((xs.take k).all fun z => decide (z.length ≤ 40)) = true)) (fun i _ => xs.length - (intOf i).toNat)
    case atStart => exact ⟨0, Nat.zero_le _, rfl, hid (Below.refl _ _), hid rfl⟩
    case round =>
      obtain ⟨k, hk, rfl, HB, HR⟩ := hrel
      by_cases hlt : k < xs.length
      · obtain ⟨b, off, B, c', z, rfl, hxk, hc1, hc2⟩ := (HX.out.below HB.out) k hlt
        have HXK := hid hxk; clear hxk hc2
        by_cases h40 : z.length ≤ 40
        · have hd4 : decide (40 < (z.length : Int)) = false := decide_eq_false (by omega)
          have H40 := hid h40; clear h40
          go_wp2
          go_roundw
          case rel => exact ⟨k + 1, by omega, by go_num, HB.out, hid (all_take_succ HXK.out HR.out (decide_eq_true H40.out))⟩
          case measure => simp [intOf]; omega
        · have hd4 : decide (40 < (z.length : Int)) = true := decide_eq_true (by omega)
          have H40 := hid h40; clear h40
          go_wp2
          go_ret
          exact ⟨ret_bool (by rw [H1.out]; exact (all_false_of (p := fun z : List Int => decide (z.length ≤ 40)) HXK.out (decide_eq_false H40.out)).symm), HB.out⟩
      · obtain rfl : k = xs.length := by omega
        go_wp2
        go_ret
        exact ⟨ret_bool (by rw [H1.out]; have := HR.out; rw [List.take_length] at this; exact this.symm), HB.out⟩
  · have H1 := H _ (decide_eq_false h); clear H
    have hd : decide (600 < (xs.length : Int)) = true := decide_eq_true (by omega)
    have HN := hid h; clear h
    go_enter Try.func4, Try.ntmps4
    go_wp2
    go_ret
    exact ⟨ret_bool (by rw [H1.out]; rfl), Below.refl _ _⟩
end Go.Proofs.Ytmogoaceangblaa
