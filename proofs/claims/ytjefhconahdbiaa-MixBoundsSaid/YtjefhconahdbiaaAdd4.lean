/- slices.Clone of frames returns a new slice with the same frames, for every slice of at most 200,000 frames. -/
import Derived.Test.YtjefhconahdbiaaAdd3
import Derived.StillTailTactics
import Derived.BigQuiet
import Derived.Deep.QuietTactic
namespace Go.Proofs.Ytjefhconahdbiaa
open Go.RowKit

def Cloned (xs : List (Int × Int)) (w : World) (e : Ending) (w' : World) : Prop :=
  ∃ v, e = .returned v ∧ w'.ownsRow w.heap.size 45 2 v xs.length (cellsOf xs) ∧ Below w.heap.size w w'

theorem cells_len (xs : List (Int × Int)) : (cellsOf xs).length = xs.length * 2 := by
  induction xs with
  | nil => rfl
  | cons x xs ih => simp [cellsOf] at ih ⊢; omega
theorem cells_at (xs : List (Int × Int)) (i : Nat) (x y : Int) (h : xs[i]? = some (x, y)) : (cellsOf xs)[i * 2]? = some (.int .i64 x) ∧ (cellsOf xs)[i * 2 + 1]? = some (.int .i64 y) := by
  induction xs generalizing i with
  | nil => simp at h
  | cons z xs ih =>
    cases i with
    | zero => simp at h; subst h; simp [cellsOf]
    | succ i =>
      simp at h
      have := ih i h
      rw [show (i + 1) * 2 = i * 2 + 1 + 1 by omega]
      simpa [cellsOf] using this
theorem cells_one (xs : List (Int × Int)) : ∀ u ∈ cellsOf xs, u.oneCell' = true := by
  intro u hu
  simp only [cellsOf, List.mem_flatMap] at hu
  obtain ⟨x, _, hx⟩ := hu
  simp at hx
  rcases hx with rfl | rfl <;> rfl
theorem FramesAt.news {w : World} {a : Addr} {xs : List (Int × Int)} (h : FramesAt w (some a) xs) : ∀ j u, (cellsOf xs)[j]? = some u → w.cell? (a.add j) = some u := by
  intro j u hu
  have hj : j < xs.length * 2 := by rw [← cells_len]; exact (List.getElem?_eq_some_iff.1 hu).1
  obtain ⟨b, off, x, y, e, e2, h1, h2⟩ := h (j / 2) (by omega)
  obtain ⟨g1, g2⟩ := cells_at xs (j / 2) x y e2
  cases e
  have ha : (⟨b, off, none⟩ : Addr).add j = ⟨b, off + j, none⟩ := by unfold Addr.add; split <;> simp_all
  rw [ha]
  rcases Nat.mod_two_eq_zero_or_one j with hm | hm
  · have e3 : j = j / 2 * 2 := by omega
    rw [← e3] at g1 h1; rw [g1] at hu; rw [h1, hu]
  · have e3 : j = j / 2 * 2 + 1 := by omega
    rw [← e3] at g2; rw [Nat.add_assoc, ← e3] at h2; rw [g2] at hu; rw [h2, hu]

set_option maxHeartbeats 400000 in
theorem clone_nil (w : World) : Calls Try.prog 48 #[.slice none 0 0] w (Cloned [] w) := by
  have hs := fun (w : World) (a : Option Addr) (n c : Nat) => Lib.run_eql_slice_nil (P := Try.prog) w 40 45 a n c 0 0 Try.underlying40
  go_enter Try.func48, Try.ntmps48
  go_wp2
  go_ret
  exact ⟨_, rfl, World.ownsRow_nil _ _ _ _, Below.refl _ _⟩
set_option maxHeartbeats 400000 in
set_option maxRecDepth 100000 in
theorem clone_some (a : Addr) (xs : List (Int × Int)) (c : Nat) (w : World) (hx : FramesAt w (some a) xs) (hn : xs.length ≤ 200000) : Calls Try.prog 48 #[.slice (some a) xs.length c] w (Cloned xs w) := by
  have HX := hid hx; clear hx
  have HN := hid hn; clear hn
  have hs := fun (w : World) (a : Option Addr) (n c : Nat) => Lib.run_eql_slice_nil (P := Try.prog) w 40 45 a n c 0 0 Try.underlying40
  obtain ⟨i0, hi, hz0, hz1, hz2⟩ := info_parts info45
  go_enter Try.func48, Try.ntmps48
  go_wp2_with (first | (at_builtin; refine wpList_append_own _ rfl _ _ 40 rfl w.heap.size 45 i0 _ 2 16 Try.underlying40 hi hz0 hz1 hz2 rfl (by decide) _ 0 [] rfl ?c0 a xs.length c (cellsOf xs) rfl (cells_len xs) ?c1 (cells_one xs) ?c2 ?c3 ?c4 ?_))
  case c0 => exact World.ownsRow_made w #[] 0 (Nat.le_refl _) (by simp) rfl
  case c1 => exact (FramesAt.news (HX.out.below (Below.grow (Below.refl _ _) _)))
  case c2 => have := HN.out; unfold maxLen; omega
  case c3 => have := HN.out; omega
  case c4 => simp
  intro v' w1 hown hg _
  have HO := hid hown; clear hown
  have HB := hid (Below.grown (Below.grow (Below.refl w.heap.size w) (.cells #[] 45)) hg (by simp) (fun k hk => by simp [Value.ownBlock] at hk; omega)); clear hg
  go_wp2
  go_ret
  have h1 := HO.out
  exact ⟨_, rfl, h1, HB.out⟩
end Go.Proofs.Ytjefhconahdbiaa
