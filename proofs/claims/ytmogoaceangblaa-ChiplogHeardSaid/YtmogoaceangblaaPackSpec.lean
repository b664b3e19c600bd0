/- What a log is packed to, in plain lists: a run, a repeat, or what differs. -/
import Derived.Test.YtmogoaceangblaaSame
namespace Go.Proofs.Ytmogoaceangblaa
open Go.RowKit

def u8cells (l : List Int) : List Value := l.map (Value.int .u8)
theorem u8cells_len (l : List Int) : (u8cells l).length = l.length := by simp [u8cells]
theorem u8cells_append (l m : List Int) : u8cells (l ++ m) = u8cells l ++ u8cells m := by simp [u8cells]
theorem u8cells_one (z : List Int) : ∀ u ∈ u8cells z, u.oneCell' = true := by
  intro u hu
  simp only [u8cells, List.mem_map] at hu
  obtain ⟨x, _, rfl⟩ := hu
  rfl
theorem u8cells_at {z : List Int} {j : Nat} {v : Int} (h : z[j]? = some v) : (u8cells z)[j]? = some (.int .u8 v) := by simp [u8cells, h]

def repAs (xs : List (List Int)) (i d n : Nat) : Bool := decide (i + n < xs.length) && xs.getD (i + n) [] == xs.getD (i + n - d) []
def repOf (xs : List (List Int)) (i d : Nat) : Nat := upto (repAs xs i d) 64 0
def bestTo (xs : List (List Int)) (i : Nat) : Nat → Nat × Nat
  | 0 => (0, 0)
  | d + 1 => if (bestTo xs i d).1 < repOf xs i (d + 1) then (repOf xs i (d + 1), d + 1) else bestTo xs i d
theorem upto_le (ok : Nat → Bool) (f n : Nat) : n ≤ upto ok f n ∧ upto ok f n ≤ n + f := by
  induction f generalizing n with
  | zero => exact ⟨Nat.le_refl _, Nat.le_refl _⟩
  | succ f ih =>
    unfold upto
    split
    · have := ih (n + 1); omega
    · omega
theorem upto_bound (ok : Nat → Bool) (L : Nat) (h : ∀ n, ok n = true → n < L) (f n : Nat) (hn : n ≤ L) : upto ok f n ≤ L := by
  induction f generalizing n with
  | zero => exact hn
  | succ f ih =>
    unfold upto
    split
    · rename_i h1; exact ih (n + 1) (h n h1)
    · exact hn
theorem bestTo_le (xs : List (List Int)) (i d : Nat) : (bestTo xs i d).1 ≤ 64 ∧ (bestTo xs i d).2 ≤ d := by
  induction d with
  | zero => exact ⟨Nat.zero_le _, Nat.le_refl _⟩
  | succ d ih =>
    unfold bestTo
    split
    · have := (upto_le (repAs xs i (d + 1)) 64 0).2; exact ⟨by unfold repOf; omega, Nat.le_refl _⟩
    · omega
theorem bestTo_bound (xs : List (List Int)) (i d : Nat) (hi : i ≤ xs.length) : i + (bestTo xs i d).1 ≤ xs.length := by
  induction d with
  | zero => exact hi
  | succ d ih =>
    unfold bestTo
    split
    · have := upto_bound (repAs xs i (d + 1)) (xs.length - i) (fun n h => by unfold repAs at h; simp at h; omega) 64 0 (by omega)
      unfold repOf; omega
    · exact ih
def sameLen (xs : List (List Int)) (i : Nat) : Nat := upto (sameAs xs i) 127 0
theorem sameLen_le (xs : List (List Int)) (i : Nat) : sameLen xs i ≤ 127 := by have := (upto_le (sameAs xs i) 127 0).2; unfold sameLen; omega
theorem sameLen_bound (xs : List (List Int)) (i : Nat) (hi : i ≤ xs.length) : i + sameLen xs i ≤ xs.length := by
  have := upto_bound (sameAs xs i) (xs.length - i) (fun n h => by unfold sameAs at h; simp at h; omega) 127 0 (by omega)
  unfold sameLen; omega

/-! Masks. -/
def maskL (l : List Int) : Nat := (l.map fun r => 2 ^ r.toNat).sum
theorem maskL_snoc (l : List Int) (r : Int) : maskL (l ++ [r]) = maskL l + 2 ^ r.toNat := by simp [maskL]
def Ups (n : Nat) (l : List Int) : Prop := maskL l < 2 ^ n ∧ (∀ r ∈ l, 0 ≤ r ∧ r < n) ∧ ∀ j r, l[j]? = some r → maskL (l.take j) < 2 ^ r.toNat
theorem ups_diffs (x y : List Int) (n : Nat) : Ups n (diffsTo x y n) := by
  induction n with
  | zero => exact ⟨by simp [diffsTo, maskL], by simp [diffsTo], by simp [diffsTo]⟩
  | succ n ih =>
    obtain ⟨h1, h2, h3⟩ := ih
    have hp : (2 : Nat) ^ (n + 1) = 2 ^ n + 2 ^ n := by rw [Nat.pow_succ]; omega
    unfold diffsTo
    split
    · exact ⟨by omega, fun r hr => by have := h2 r hr; omega, h3⟩
    · refine ⟨by rw [maskL_snoc, Int.toNat_natCast]; omega, fun r hr => ?_, fun j r hj => ?_⟩
      · rw [List.mem_append] at hr
        rcases hr with hr | hr
        · have := h2 r hr; omega
        · simp at hr; omega
      · by_cases hjl : j < (diffsTo x y n).length
        · rw [List.getElem?_append_left hjl] at hj
          rw [List.take_append_of_le_length (by omega)]
          exact h3 j r hj
        · have hj2 : j = (diffsTo x y n).length := by
            have := (List.getElem?_eq_some_iff.1 hj).1
            simp at this; omega
          subst hj2
          simp at hj
          subst hj
          simp; exact h1
def aloneOf (old x : List Int) : List Int :=
  if (diffs old x).length = 1 then [128 + (diffs old x).getD 0 0, x.getD ((diffs old x).getD 0 0).toNat 0]
  else [192, ((maskL (diffs old x) % 256 : Nat) : Int), ((maskL (diffs old x) / 256 : Nat) : Int)] ++ (diffs old x).map (fun r => x.getD r.toNat 0)
theorem aloneOf_len (old x : List Int) : 1 ≤ (aloneOf old x).length ∧ (aloneOf old x).length ≤ 17 := by
  have := diffsTo_le old x 14
  unfold aloneOf diffs
  split
  · simp
  · simp; omega

def cmdAt (xs : List (List Int)) (i : Nat) : List Int × Nat :=
  if 0 < sameLen xs i ∧ (bestTo xs i (min 255 i)).1 ≤ sameLen xs i then ([(sameLen xs i : Int)], sameLen xs i)
  else if 2 ≤ (bestTo xs i (min 255 i)).1 then ([((191 + (bestTo xs i (min 255 i)).1 : Nat) : Int), ((bestTo xs i (min 255 i)).2 : Int)], (bestTo xs i (min 255 i)).1)
  else (aloneOf (prev xs i) (xs.getD i []), 1)
theorem cmdAt_pos (xs : List (List Int)) (i : Nat) : 0 < (cmdAt xs i).2 := by
  unfold cmdAt; split
  · rename_i h; exact h.1
  · split
    · rename_i h; simp only; omega
    · simp
theorem cmdAt_bound (xs : List (List Int)) (i : Nat) (hi : i < xs.length) : i + (cmdAt xs i).2 ≤ xs.length := by
  have h1 := sameLen_bound xs i (by omega)
  have h2 := bestTo_bound xs i (min 255 i) (by omega)
  unfold cmdAt; split
  · exact h1
  · split
    · exact h2
    · simp only; omega
theorem cmdAt_len (xs : List (List Int)) (i : Nat) : 1 ≤ (cmdAt xs i).1.length ∧ (cmdAt xs i).1.length ≤ 17 * (cmdAt xs i).2 := by
  have h := aloneOf_len (prev xs i) (xs.getD i [])
  unfold cmdAt; split
  · simp; omega
  · split
    · simp; omega
    · simp only; omega
def packFrom (xs : List (List Int)) (i : Nat) : List Int :=
  if _h : i < xs.length then (cmdAt xs i).1 ++ packFrom xs (i + (cmdAt xs i).2) else [0]
termination_by xs.length - i
decreasing_by have := cmdAt_pos xs i; omega
theorem packFrom_more {xs : List (List Int)} {i : Nat} (h : i < xs.length) : packFrom xs i = (cmdAt xs i).1 ++ packFrom xs (i + (cmdAt xs i).2) := by
  rw [packFrom, dif_pos h]
theorem packFrom_end {xs : List (List Int)} {i : Nat} (h : ¬ i < xs.length) : packFrom xs i = [0] := by
  rw [packFrom, dif_neg h]
def packed (xs : List (List Int)) : List Int := packFrom xs 0
end Go.Proofs.Ytmogoaceangblaa
