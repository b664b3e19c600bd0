/- Two arrays of 14 numbers are compared as lists. -/
import Derived.Test.YtmogoaceangblaaLog
import Derived.Laws.StructEq
namespace Go.Proofs.Ytmogoaceangblaa
open Go.RowKit

/-- The comparison's loop over the places that are left. -/
theorem run_part3 (w : World) (x : List Int) (i : Nat) (hi : i < x.length) : (part 3 (icells x).toArray (i * 1)).run Try.prog w = .ok (.int .i64 (x.getD i 0)) w := by
  have ha : (isAgg 3).run Try.prog w = .ok false w := by kernel_rfl
  have hx : x[i]? = some (x[i]'hi) := List.getElem?_eq_getElem hi
  have h := icells_at hx
  have hg : x.getD i 0 = x[i]'hi := by rw [List.getD, hx]; rfl
  unfold part
  rw [Sem.run_bind, ha]
  simp only [Result.andThen_ok, Bool.false_eq_true, if_false, Nat.mul_one]
  have h2 : (icells x).toArray[i]? = some (.int .i64 (x[i]'hi)) := by simpa using h
  rw [h2, hg]
  rfl
theorem run_eq_loop (x y : List Int) (w : World) : ∀ (l : List Nat), (∀ i ∈ l, i < x.length ∧ i < y.length) →
    (forIn (m := Sem) l ((none : Option Bool), ()) fun i _ => do
      let a ← part 3 (icells x).toArray (i * 1)
      let b ← part 3 (icells y).toArray (i * 1)
      let q ← Op.equalIn 9999 3 a b
      if (!q) = true then pure (ForInStep.done (some false, ())) else pure (ForInStep.yield (none, ()))).run Try.prog w =
    .ok (if l.all (fun i => x.getD i 0 == y.getD i 0) then (none, ()) else (some false, ())) w := by
  intro l
  induction l with
  | nil => intro _; simp [Sem.run_pure]
  | cons i l ih =>
    intro h
    obtain ⟨h1, h2⟩ := h i (by simp)
    simp only [List.forIn_cons, Sem.run_bind, run_part3 w x i h1, run_part3 w y i h2, Result.andThen_ok, run_equalIn_int w 9998 3 .i64 .i64 _ _ Try.underlying3, Sem.run_ite, Sem.run_pure, List.all_cons]
    rcases Bool.eq_false_or_eq_true (x.getD i 0 == y.getD i 0) with hq | hq
    · simp only [hq, Bool.not_true, Bool.false_eq_true, if_false, Result.andThen_ok, Bool.true_and]
      exact ih (fun j hj => h j (by simp [hj]))
    · simp only [hq, Bool.not_false, if_true, Result.andThen_ok, Bool.false_and, Bool.false_eq_true, if_false, Sem.run_pure]
theorem all_range_eq (x y : List Int) (hx : x.length = 14) (hy : y.length = 14) : (List.range' 0 14 1).all (fun i => x.getD i 0 == y.getD i 0) = (x == y) := by
  match x, hx, y, hy with
  | [x0, x1, x2, x3, x4, x5, x6, x7, x8, x9, x10, x11, x12, x13], _, [y0, y1, y2, y3, y4, y5, y6, y7, y8, y9, y10, y11, y12, y13], _ => rfl
theorem run_eql75 (x y : List Int) (hx : x.length = 14) (hy : y.length = 14) (w : World) :
    (Op.equalIn 10000 43 (.agg (icells x).toArray) (.agg (icells y).toArray)).run Try.prog w = .ok (x == y) w := by
  have hs : (sizeOf 3).run Try.prog w = .ok 1 w := by kernel_rfl
  have h := run_eq_loop x y w (List.range' 0 14 1) (fun i hi => by simp at hi; omega)
  rw [all_range_eq x y hx hy] at h
  rw [Op.equalIn]
  simp only [Sem.run_bind, run_underlying Try.underlying43, Result.andThen_ok, hs]
  rw [Std.Legacy.Range.forIn_eq_forIn_range']
  have hsz : List.range' ([:14] : Std.Legacy.Range).start ([:14] : Std.Legacy.Range).size ([:14] : Std.Legacy.Range).step = List.range' 0 14 1 := rfl
  rw [hsz, h]
  cases (x == y) <;> rfl
end Go.Proofs.Ytmogoaceangblaa
