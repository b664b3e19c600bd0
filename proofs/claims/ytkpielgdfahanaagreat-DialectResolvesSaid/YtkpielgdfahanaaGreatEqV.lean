/- Operations and memories are compared as numbers. -/
import Derived.Test.YtkpielgdfahanaaGreatPRes
import Derived.Laws.StructEq
namespace Go.Proofs.YtkpielgdfahanaaGreat
open Go.RowKit
theorem under50 : Tryz.prog.underlying 50 = some (.struct (Tryz.prog.fieldsOf 50)) := by kernel_rfl
theorem under28 : Tryz.prog.underlying 28 = some (.struct (Tryz.prog.fieldsOf 28)) := by kernel_rfl
theorem part3 (cs : Array Value) (i : Nat) (v : Value) (h : cs[i]? = some v) (w : World) : (part 3 cs i).run Tryz.prog w = .ok v w := by
  have ha : (isAgg 3).run Tryz.prog w = .ok false w := by kernel_rfl
  unfold part
  rw [Sem.run_bind, ha]
  simp only [Result.andThen_ok, Bool.false_eq_true, if_false]
  rw [h]
  rfl
theorem eqI (a b : Int) (d : Nat) (w : World) : (Op.equalIn (d + 1) 3 (.int .i64 a) (.int .i64 b)).run Tryz.prog w = .ok (a == b) w := run_equalIn_int w d 3 .i64 .i64 a b Tryz.underlying3
/-- The comparison of one more number. -/
theorem eq_step (d : Nat) (xs ys : Array Value) (f : Field) (fs : List Field) (a b : Int) (q : Bool) (hn : f.name ≠ "_") (ht : f.type = 3) (hx : xs[f.offset]? = some (.int .i64 a)) (hy : ys[f.offset]? = some (.int .i64 b)) (w : World)
    (h : (Op.eqFields (d + 1) xs ys fs).run Tryz.prog w = .ok q w) : (Op.eqFields (d + 1) xs ys (f :: fs)).run Tryz.prog w = .ok (a == b && q) w := by
  unfold Op.eqFields
  rw [if_pos hn, ht]
  simp only [Sem.run_bind, part3 _ _ _ hx, part3 _ _ _ hy, Result.andThen_ok, eqI, Sem.run_ite]
  cases hab : (a == b) with
  | true => simpa using h
  | false => simp [Sem.run_pure]
theorem run_eq50 (a b c x y z : Int) (w : World) : (Op.equalIn 10000 50 (.agg #[.int .i64 a, .int .i64 b, .int .i64 c]) (.agg #[.int .i64 x, .int .i64 y, .int .i64 z])).run Tryz.prog w = .ok (a == x && (b == y && (c == z && true))) w := by
  rw [run_equalIn_struct w 9999 50 _ _ under50 (by kernel_rfl)]
  unfold Program.fieldsOf
  rw [Tryz.underlying50]
  exact eq_step 9998 _ _ _ _ a x _ (by decide) rfl rfl rfl w (eq_step 9998 _ _ _ _ b y _ (by decide) rfl rfl rfl w (eq_step 9998 _ _ _ _ c z _ (by decide) rfl rfl rfl w rfl))
theorem run_eq_loop (x y : List Int) (hx : x.length = 26) (hy : y.length = 26) (w : World) : ∀ (l : List Nat), (∀ i ∈ l, i < 24) →
    (forIn (m := Sem) l ((none : Option Bool), ()) fun i _ => do
      let a ← part 3 (slotV x) (i * 1)
      let b ← part 3 (slotV y) (i * 1)
      let q ← Op.equalIn 9998 3 a b
      if (!q) = true then pure (ForInStep.done (some false, ())) else pure (ForInStep.yield (none, ()))).run Tryz.prog w =
    .ok (if l.all (fun i => x.getD i 0 == y.getD i 0) then (none, ()) else (some false, ())) w := by
  have at_ : ∀ (z : List Int), z.length = 26 → ∀ i, i < 24 → (slotV z)[i * 1]? = some (.int .i64 (z.getD i 0)) := fun z hz i hi => by
    unfold slotV
    rw [Nat.mul_one, List.getElem?_toArray, List.getElem?_map, List.getElem?_take, if_pos hi, List.getD_eq_getElem?_getD, List.getElem?_eq_getElem (by omega)]
    rfl
  intro l
  induction l with
  | nil => intro _; simp [Sem.run_pure]
  | cons i l ih =>
    intro h
    have h1 := h i (by simp)
    simp only [List.forIn_cons, Sem.run_bind, part3 _ _ _ (at_ x hx i h1), part3 _ _ _ (at_ y hy i h1), Result.andThen_ok, eqI, Sem.run_ite, Sem.run_pure, List.all_cons]
    rcases Bool.eq_false_or_eq_true (x.getD i 0 == y.getD i 0) with hq | hq
    · simp only [hq, Bool.not_true, Bool.false_eq_true, if_false, Result.andThen_ok, Bool.true_and]
      exact ih (fun j hj => h j (by simp [hj]))
    · simp only [hq, Bool.not_false, if_true, Result.andThen_ok, Bool.false_and, Bool.false_eq_true, if_false, Sem.run_pure]
theorem run_eq26 (x y : List Int) (hx : x.length = 26) (hy : y.length = 26) (w : World) :
    (Op.equalIn 9999 26 (.agg (slotV x)) (.agg (slotV y))).run Tryz.prog w = .ok ((List.range' 0 24 1).all (fun i => x.getD i 0 == y.getD i 0)) w := by
  have hs : (sizeOf 3).run Tryz.prog w = .ok 1 w := by kernel_rfl
  have h := run_eq_loop x y hx hy w (List.range' 0 24 1) (fun i hi => by simp at hi; omega)
  rw [Op.equalIn]
  simp only [Sem.run_bind, run_underlying Tryz.underlying26, Result.andThen_ok, hs]
  rw [Std.Legacy.Range.forIn_eq_forIn_range']
  have hsz : List.range' ([:24] : Std.Legacy.Range).start ([:24] : Std.Legacy.Range).size ([:24] : Std.Legacy.Range).step = List.range' 0 24 1 := rfl
  rw [hsz, h]
  cases ((List.range' 0 24 1).all (fun i => x.getD i 0 == y.getD i 0)) <;> rfl
theorem part26_lit (m0 m1 m2 m3 m4 m5 m6 m7 m8 m9 m10 m11 m12 m13 m14 m15 m16 m17 m18 m19 m20 m21 m22 m23 m24 m25 : Int) (w : World) : (part 26 #[.int .i64 m0, .int .i64 m1, .int .i64 m2, .int .i64 m3, .int .i64 m4, .int .i64 m5, .int .i64 m6, .int .i64 m7, .int .i64 m8, .int .i64 m9, .int .i64 m10, .int .i64 m11, .int .i64 m12, .int .i64 m13, .int .i64 m14, .int .i64 m15, .int .i64 m16, .int .i64 m17, .int .i64 m18, .int .i64 m19, .int .i64 m20, .int .i64 m21, .int .i64 m22, .int .i64 m23, .int .i64 m24, .int .i64 m25] 0).run Tryz.prog w = .ok (.agg #[.int .i64 m0, .int .i64 m1, .int .i64 m2, .int .i64 m3, .int .i64 m4, .int .i64 m5, .int .i64 m6, .int .i64 m7, .int .i64 m8, .int .i64 m9, .int .i64 m10, .int .i64 m11, .int .i64 m12, .int .i64 m13, .int .i64 m14, .int .i64 m15, .int .i64 m16, .int .i64 m17, .int .i64 m18, .int .i64 m19, .int .i64 m20, .int .i64 m21, .int .i64 m22, .int .i64 m23]) w := by kernel_rfl
theorem part26 (x : List Int) (hx : x.length = 26) (w : World) : (part 26 (memV x) 0).run Tryz.prog w = .ok (.agg (slotV x)) w := by
  obtain ⟨m0, m1, m2, m3, m4, m5, m6, m7, m8, m9, m10, m11, m12, m13, m14, m15, m16, m17, m18, m19, m20, m21, m22, m23, m24, m25, rfl⟩ := list26 x hx
  exact part26_lit m0 m1 m2 m3 m4 m5 m6 m7 m8 m9 m10 m11 m12 m13 m14 m15 m16 m17 m18 m19 m20 m21 m22 m23 m24 m25 w
theorem run_eq28 (x y : List Int) (hx : x.length = 26) (hy : y.length = 26) (w : World) :
    (Op.equalIn 10000 28 (.agg (memV x)) (.agg (memV y))).run Tryz.prog w = .ok ((List.range' 0 24 1).all (fun i => x.getD i 0 == y.getD i 0) && (x.getD 24 0 == y.getD 24 0 && (x.getD 25 0 == y.getD 25 0 && true))) w := by
  have at_ : ∀ (z : List Int), z.length = 26 → ∀ i, i < 26 → (memV z)[i]? = some (.int .i64 (z.getD i 0)) := fun z hz i hi => by
    unfold memV
    rw [List.getElem?_toArray, List.getElem?_map, List.getD_eq_getElem?_getD, List.getElem?_eq_getElem (by omega)]
    rfl
  rw [run_equalIn_struct w 9999 28 _ _ under28 (by kernel_rfl)]
  unfold Program.fieldsOf
  rw [Tryz.underlying28]
  unfold Op.eqFields
  rw [if_pos (by decide)]
  simp only [Sem.run_bind, part26 x hx, part26 y hy, Result.andThen_ok, run_eq26 x y hx hy, Sem.run_ite]
  cases hq : (List.range' 0 24 1).all (fun i => x.getD i 0 == y.getD i 0) with
  | false => simp [Sem.run_pure]
  | true =>
    simp only [Bool.not_true, Bool.false_eq_true, if_false, Bool.true_and]
    exact eq_step 9998 _ _ _ _ _ _ _ (by decide) rfl (at_ x hx 24 (by omega)) (at_ y hy 24 (by omega)) w (eq_step 9998 _ _ _ _ _ _ _ (by decide) rfl (at_ x hx 25 (by omega)) (at_ y hy 25 (by omega)) w rfl)
/-- Two memories are the same list. -/
theorem all26 (x y : List Int) (hx : x.length = 26) (hy : y.length = 26) : ((List.range' 0 24 1).all (fun i => x.getD i 0 == y.getD i 0) && (x.getD 24 0 == y.getD 24 0 && (x.getD 25 0 == y.getD 25 0 && true))) = decide (x = y) := by
  rw [Bool.eq_iff_iff]
  simp only [Bool.and_eq_true, List.all_eq_true, List.mem_range', beq_iff_eq, decide_eq_true_eq, and_true]
  constructor
  · rintro ⟨h, h24, h25⟩
    apply List.ext_getElem?
    intro i
    rcases Nat.lt_or_ge i 26 with hi | hi
    · have e : x.getD i 0 = y.getD i 0 := by
        rcases Nat.lt_or_ge i 24 with h24' | h24'
        · exact h i ⟨i, h24', by omega⟩
        · have : i = 24 ∨ i = 25 := by omega
          rcases this with rfl | rfl
          · exact h24
          · exact h25
      rw [List.getD_eq_getElem?_getD, List.getD_eq_getElem?_getD, List.getElem?_eq_getElem (by omega), List.getElem?_eq_getElem (by omega)] at e
      rw [List.getElem?_eq_getElem (by omega), List.getElem?_eq_getElem (by omega)]
      exact congrArg some e
    · rw [List.getElem?_eq_none (by omega), List.getElem?_eq_none (by omega)]
  · rintro rfl
    exact ⟨fun _ _ => rfl, rfl, rfl⟩
theorem neq28 (x y : List Int) (hx : x.length = 26) (hy : y.length = 26) (w : World) : (binOp .neq 28 (.agg (memV x)) (.agg (memV y))).run Tryz.prog w = .ok (.bool (!decide (x = y))) w := by
  rw [run_neq_struct, run_eq28 x y hx hy, all26 x y hx hy]; rfl
theorem eql28 (x y : List Int) (hx : x.length = 26) (hy : y.length = 26) (w : World) : (binOp .eql 28 (.agg (memV x)) (.agg (memV y))).run Tryz.prog w = .ok (.bool (decide (x = y))) w := by
  rw [run_eql_struct, run_eq28 x y hx hy, all26 x y hx hy]; rfl
theorem neq50 (a b c x y z : Int) (w : World) : (binOp .neq 50 (.agg #[.int .i64 a, .int .i64 b, .int .i64 c]) (.agg #[.int .i64 x, .int .i64 y, .int .i64 z])).run Tryz.prog w = .ok (.bool (!decide ((a, b, c) = (x, y, z)))) w := by
  rw [run_neq_struct, run_eq50]
  have : (a == x && (b == y && (c == z && true))) = decide ((a, b, c) = (x, y, z)) := by
    rw [Bool.eq_iff_iff]; simp
  rw [this]; rfl
end Go.Proofs.YtkpielgdfahanaaGreat
