/- The callees that look whether frames are in range: mix.in, the literal in framesOK and slices.IndexFunc over it return what plain functions on lists say, for every slice of frames that reads as a list. -/
import Derived.Test.YtjefhconahdbiaaBase
namespace Go.Proofs.Ytjefhconahdbiaa
open Go.RowKit

set_option maxHeartbeats 400000 in
theorem mixin (n lo hi : Int) (w : World) :
    Calls Try.prog 53 #[.int .i64 n, .int .i64 lo, .int .i64 hi] w fun e w' => e = .returned (.bool (inr n lo hi)) ∧ w = w' := by
  have H : ∀ c : Bool, decide (lo ≤ n) = c → Hid (inr n lo hi = (if c then decide (n ≤ hi) else false)) := by
    intro c hc; refine hid ?_; unfold inr; rw [hc]; cases c <;> simp
  by_cases h1 : lo ≤ n
  · have H1 := H true (decide_eq_true h1); clear H
    go_enter Try.func53, Try.ntmps53
    go_wp2
    go_ret
    exact ⟨ret_bool (by rw [H1.out]; rfl), rfl⟩
  · have H1 := H false (decide_eq_false h1); clear H
    go_enter Try.func53, Try.ntmps53
    go_wp2
    go_ret
    exact ⟨ret_bool (by rw [H1.out]; rfl), rfl⟩

def rng (n : Int) : Bool := inr n (-1099511627776) 1099511627776
def fok (x : Int × Int) : Bool := rng x.1 && rng x.2

theorem mixin40 (n : Int) (w : World) :
    Calls Try.prog 53 #[.int .i64 n, .int .i64 (-1099511627776), .int .i64 1099511627776] w fun e w' => e = .returned (.bool (rng n)) ∧ w = w' := mixin n _ _ w

set_option maxHeartbeats 400000 in
theorem closure (a b : Int) (w : World) :
    Calls Try.prog 73 #[.agg #[.int .i64 a, .int .i64 b]] w fun e w' => e = .returned (.bool (!fok (a, b))) ∧ Below w.heap.size w w' := by
  have H : ∀ c, rng a = c → Hid (fok (a, b) = (if c then rng b else false)) := by
    intro c hc; refine hid ?_; unfold fok; rw [hc]; cases c <;> simp
  cases h1 : rng a with
  | true =>
    have H1 := H _ h1; clear H
    go_enter Try.func73, Try.ntmps73
    go_wp2_with (go_at_call 53; refine (mixin40 _ _).mono ?_; rintro e w' ⟨rfl, rfl⟩)
    go_ret
    exact ⟨ret_bool (by rw [H1.out]; rfl), (Below.refl _ _).alloc (Nat.le_refl _) _⟩
  | false =>
    have H1 := H _ h1; clear H
    go_enter Try.func73, Try.ntmps73
    go_wp2_with (go_at_call 53; refine (mixin40 _ _).mono ?_; rintro e w' ⟨rfl, rfl⟩)
    go_ret
    exact ⟨ret_bool (by rw [H1.out]; rfl), (Below.refl _ _).alloc (Nat.le_refl _) _⟩

/-- A slice of frames reads as a list. -/
def FramesAt (w : World) (A : Option Addr) (xs : List (Int × Int)) : Prop :=
  ∀ i, i < xs.length → ∃ b off x y, A = some ⟨b, off, none⟩ ∧ xs[i]? = some (x, y) ∧ w.cell? ⟨b, off + i * 2, none⟩ = some (.int .i64 x) ∧ w.cell? ⟨b, off + i * 2 + 1, none⟩ = some (.int .i64 y)

theorem FramesAt.below {w w' : World} {A : Option Addr} {xs : List (Int × Int)} (h : FramesAt w A xs) (hb : Below w.heap.size w w') : FramesAt w' A xs := by
  intro i hi
  obtain ⟨b, off, x, y, e, e2, h1, h2⟩ := h i hi
  exact ⟨b, off, x, y, e, e2, (hb.cell (World.block_lt_of_cell? w _ h1)).trans h1, (hb.cell (World.block_lt_of_cell? w _ h2)).trans h2⟩

def NotAll (xs : List (Int × Int)) (w : World) (e : Ending) (w' : World) : Prop := ∃ r : Int, e = .returned (.int .i64 r) ∧ decide (0 ≤ r) = (!xs.all fok) ∧ Below w.heap.size w w'

theorem all_no {xs : List (Int × Int)} {k : Nat} {x : Int × Int} (hk : xs[k]? = some x) (h : fok x = false) : xs.all fok = false := by
  rw [List.all_eq_false]
  exact ⟨x, List.mem_of_getElem? hk, by rw [h]; simp⟩
theorem all_take {xs : List (Int × Int)} {k : Nat} {x : Int × Int} (hk : xs[k]? = some x) (h : (xs.take k).all fok = true) (h' : fok x = true) : (xs.take (k + 1)).all fok = true := by
  rw [List.take_add_one, List.all_append, h, hk]
  simp [h']

set_option maxHeartbeats 1000000 in
theorem indexFunc (A : Option Addr) (xs : List (Int × Int)) (c : Nat) (w : World) (hx : FramesAt w A xs) (hn : xs.length ≤ 2 ^ 47) :
    Calls Try.prog 88 #[.slice A xs.length c, .func (.func 73) #[] #[]] w (NotAll xs w) := by
  have HX := hid hx; clear hx
  go_enter Try.func88, Try.ntmps88
  go_wp2
  go_loopw [5, 8] (fun v i wr => ∃ k : Nat, k ≤ xs.length ∧ i = .int .i64 k ∧ Hid ((xs.take k).all fok = true) ∧ Hid (Below w.heap.size w wr)) (fun _ i _ => xs.length - (intOf i).toNat)
  case atStart => exact ⟨0, Nat.zero_le _, rfl, by simp [Hid], Below.refl _ _⟩
  case round =>
    obtain ⟨k, hk, rfl, HA, HB⟩ := hrel
    by_cases hlt : k < xs.length
    · obtain ⟨b, off, x, y, rfl, hxk, hc1, hc2⟩ := (HX.out.below HB.out) k hlt
      have HXk := hid hxk; clear hxk
      cases hf : fok (x, y) with
      | true =>
        have HF := hid hf; clear hf
        go_wp2_with fail
        refine (closure _ _ _).mono ?_
        rintro e w1 ⟨rfl, hb⟩
        rw [HF.out]
        have HB1 := hid (Below.step HB.out hb); clear HB hb
        go_wp2
        go_roundw
        case rel => exact ⟨k + 1, by omega, by go_num, all_take HXk.out HA.out HF.out, HB1.out⟩
        case measure => simp [intOf]; omega
      | false =>
        have HF := hid hf; clear hf
        go_wp2_with fail
        refine (closure _ _ _).mono ?_
        rintro e w1 ⟨rfl, hb⟩
        rw [HF.out]
        have HB1 := hid (Below.step HB.out hb); clear HB hb
        go_wp2
        go_ret
        exact ⟨k, rfl, by rw [all_no HXk.out HF.out]; simp, HB1.out⟩
    · have hk' : k = xs.length := by omega
      subst hk'
      go_wp2
      go_ret
      exact ⟨-1, rfl, by have := HA.out; rw [List.take_length] at this; rw [this]; rfl, HB.out⟩
end Go.Proofs.Ytjefhconahdbiaa
