/- dialect.timed: four entries of a map; the order in which they are laid is left open: the map is the same in each. -/
import Derived.Test.YtkpielgdfahanaaGreatInv
namespace Go.Proofs.YtkpielgdfahanaaGreat
open Go.RowKit Go.Maps

/-- What lies, lies below the heap's end. -/
theorem One.within {p : Nat → Prop} {w : World} {c : Nat} {x : Value} (h : One p w c x) : One (fun c => p c ∧ c < w.heap.size) w c x := by
  obtain ⟨hp, ty, h⟩ := h
  exact ⟨⟨hp, (Array.getElem?_eq_some_iff.1 h).1⟩, ty, h⟩
theorem Lies.low_within {p : Nat → Prop} {w : World} {n : Int} {v : Value} (h : Lies p (.lowHalf n) v w) : Lies (fun c => p c ∧ c < w.heap.size) (.lowHalf n) v w := by
  obtain ⟨c, h1, h2⟩ := h; exact ⟨c, h1, h2.within⟩

theorem wp_insert_tab {p : Nat → Prop} {q : IntKind} (w : World) {o : Oper} {a : Act} {K : Act → World → Prop} {Q : Exit → Act → World → Prop} {b n : Nat} {G : Int → Eff} (m x v : Operand) (t : TypeId) (hop : o.op = Op.insert t m x v)
    (k e : TypeId) (H : Keyed Tryz.prog k) (ht : Tryz.prog.underlying t = some (.map k e)) (hm : a.eval m = .map (some b)) (h : Hid (Tab p k q b n G w)) (hn : n < maxLen) (kl : Int) (hkey : keyOf Tryz.prog k (a.eval x) = some (.int q kl))
    (E : Eff) (hv : Hid (Lies p E (a.eval v) w)) (hnp : ¬ p b)
    (hK : ∀ w', Hid (Tab p k q b (n + 1) (upd G kl E) w') → Hid (w.grownBy w' (some b)) → K (a.put o.dst undef) w') : o.wp Tryz.prog a w K Q := by
  obtain ⟨g, h1, h2⟩ := h
  obtain ⟨D, h1, hi, h3⟩ := h1
  obtain ⟨w', hrun, r1, r2⟩ := h1.update H ht hn (d := .held (a.eval v)) (ps := []) hkey rfl
  unfold Oper.wp
  simp [execOp, hop, hm, hrun, Result.andThen]
  refine hK w' ⟨fun y => if y = kl then a.eval v else g y, ⟨_, r1, hi.put _ _, fun y => ?_⟩, Tab.put h2 hv r2 hnp⟩ r2
  by_cases hy : y = kl
  · subst hy; rw [atKey_put_same hi (show WideAt.IsKeyLit (.int q y) from trivial)]; simp
  · rw [atKey_put_other (fun e => hy (by injection e)), h3]; simp [hy]

/-- The entries that have been laid. -/
def tG (n : Int) (d : Nat → Bool) (x : Int) : Eff :=
  if d 9 = true ∧ x = 14 then .lowHalf 35 else if d 7 = true ∧ x = 13 then .lowHalf 22 else if d 5 = true ∧ x = 12 then .lowHalf 21 else if d 3 = true ∧ x = n then .lowHalf 34 else .nil
def tN (d : Nat → Bool) : Nat := (d 3).toNat + (d 5).toNat + (d 7).toNat + (d 9).toNat
def timedE (n : Int) (x : Int) : Eff := if x = 14 then .lowHalf 35 else if x = 13 then .lowHalf 22 else if x = 12 then .lowHalf 21 else if x = n then .lowHalf 34 else .nil

/-- A maker's result, once its call has come up. -/
def Got (p : Nat → Prop) (d : Bool) (n : Int) (x : Value) (w : World) : Prop := d = true → Lies p (.lowHalf n) x w
structure TI (w0 : World) (n : Int) (d : Nat → Bool) (x2 x3 x4 x5 x6 x7 x8 x9 : Value) (p : Nat → Prop) (w : World) : Prop where
  base : Below w0.heap.size w0 w
  since : ∀ c, p c → w0.heap.size ≤ c
  news : News p w
  moved : d 1 = true → x4 = .int .i64 n
  g5 : Got p (d 2) 34 x5 w
  g6 : Got p (d 4) 21 x6 w
  g7 : Got p (d 6) 22 x7 w
  g8 : Got p (d 8) 35 x8 w
  map : d 0 = true → ∃ m, x3 = .map (some m) ∧ ¬ p m ∧ w0.heap.size ≤ m ∧ Tab p 3 .i64 m (tN d) (tG n d) w
  fresh : d 0 = false → d 3 = false ∧ d 5 = false ∧ d 7 = false ∧ d 9 = false
  x9e : d 10 = true → d 0 = true ∧ x9 = x3
  x2e : d 11 = true → d 10 = true ∧ x2 = x9
def TInv (w0 : World) (n : Int) (d : Nat → Bool) (a : Act) (w : World) : Prop :=
  ∃ x2 x3 x4 x5 x6 x7 x8 x9 p, a = { tmps := #[.int .i64 n, undef, x2, x3, x4, x5, x6, x7, x8, x9], defers := [] } ∧ TI w0 n d x2 x3 x4 x5 x6 x7 x8 x9 p w

/-- What timed hands back. -/
def Timed (n : Int) (w : World) (x : Ending) (w' : World) : Prop := ∃ m N p, x = .returned (.map (some m)) ∧ w.heap.size ≤ m ∧ (∀ c, p c → w.heap.size ≤ c) ∧ ¬ p m ∧ News p w' ∧ N ≤ 4 ∧ Tab p 3 .i64 m N (timedE n) w' ∧ Below w.heap.size w w'

theorem timed_end {w0 : World} {n : Int} {d : Nat → Bool} {a : Act} {w : World} (hd : ∀ j, j < 12 → d j = true) (h : TInv w0 n d a w) : ∃ x3 x4 x5 x6 x7 x8 x9 m, a = { tmps := #[.int .i64 n, undef, .map (some m), x3, x4, x5, x6, x7, x8, x9], defers := [] } ∧ Timed n w0 (.returned (.map (some m))) w := by
  obtain ⟨x2, x3, x4, x5, x6, x7, x8, x9, p, rfl, T⟩ := h
  obtain ⟨m, h3, hp, hm, ht⟩ := T.map (hd 0 (by omega))
  obtain ⟨_, h9⟩ := T.x9e (hd 10 (by omega))
  obtain ⟨_, h2⟩ := T.x2e (hd 11 (by omega))
  subst h2; subst h9; subst h3
  refine ⟨_, x4, x5, x6, x7, x8, _, m, rfl, m, tN d, p, rfl, hm, T.since, hp, T.news, ?_, ?_, T.base⟩
  · simp [tN, hd]
  · have : tG n d = timedE n := by funext x; simp [tG, timedE, hd]
    rw [← this]; exact ht
theorem TI.move {w0 w : World} {n : Int} {d : Nat → Bool} {x2 x3 x4 x5 x6 x7 x8 x9 : Value} {p : Nat → Prop} (T : TI w0 n d x2 x3 x4 x5 x6 x7 x8 x9 p w) : TI w0 n (fun j => j == 1 || d j) x2 x3 (.int .i64 n) x5 x6 x7 x8 x9 p w :=
  ⟨T.base, T.since, T.news, fun _ => rfl, T.g5, T.g6, T.g7, T.g8, T.map, T.fresh, T.x9e, T.x2e⟩
theorem TI.nine {w0 w : World} {n : Int} {d : Nat → Bool} {x2 x3 x4 x5 x6 x7 x8 x9 : Value} {p : Nat → Prop} (T : TI w0 n d x2 x3 x4 x5 x6 x7 x8 x9 p w) (h0 : d 0 = true) (h11 : d 11 = false) : TI w0 n (fun j => j == 10 || d j) x2 x3 x4 x5 x6 x7 x8 x3 p w :=
  ⟨T.base, T.since, T.news, T.moved, T.g5, T.g6, T.g7, T.g8, T.map, T.fresh, fun _ => ⟨h0, rfl⟩, fun h => by simp [h11] at h⟩
theorem TI.two {w0 w : World} {n : Int} {d : Nat → Bool} {x2 x3 x4 x5 x6 x7 x8 x9 : Value} {p : Nat → Prop} (T : TI w0 n d x2 x3 x4 x5 x6 x7 x8 x9 p w) (h0 : d 10 = true) : TI w0 n (fun j => j == 11 || d j) x9 x3 x4 x5 x6 x7 x8 x9 p w :=
  ⟨T.base, T.since, T.news, T.moved, T.g5, T.g6, T.g7, T.g8, T.map, T.fresh, T.x9e, fun _ => ⟨h0, rfl⟩⟩
theorem TI.make {w0 w : World} {n : Int} {d : Nat → Bool} {x2 x3 x4 x5 x6 x7 x8 x9 : Value} {p : Nat → Prop} (T : TI w0 n d x2 x3 x4 x5 x6 x7 x8 x9 p w) (h0 : d 0 = false) :
    TI w0 n (fun j => j == 0 || d j) x2 (.map (some w.heap.size)) x4 x5 x6 x7 x8 x9 (fun c => p c ∧ c ≠ w.heap.size) (w.alloc (.map #[] 0)) := by
  have hb := below1 w (.map #[] 0)
  have h10 : d 10 = false := by
    cases h : d 10 with
    | false => rfl
    | true => have := (T.x9e h).1; rw [h0] at this; cases this
  have h11 : d 11 = false := by
    cases h : d 11 with
    | false => rfl
    | true => have := (T.x2e h).1; rw [h10] at this; cases this
  have keep : ∀ (e : Int) (b : Bool) (v : Value), Got p b e v w → Got (fun c => p c ∧ c ≠ w.heap.size) b e v (w.alloc (.map #[] 0)) := fun e b v h hb' =>
    Lies.keep (same_below hb _) _ _ (Lies.wider (fun c hc => ⟨hc.1, by omega⟩) _ _ (Lies.low_within (h hb')))
  obtain ⟨f3, f5, f7, f9⟩ := T.fresh h0
  refine ⟨Below.step T.base hb, fun c hc => T.since c hc.1, fun c hc => ⟨T.news c (by simp at hc; omega), by simp at hc; omega⟩, T.moved, keep _ _ _ T.g5, keep _ _ _ T.g6, keep _ _ _ T.g7, keep _ _ _ T.g8, fun _ => ⟨_, rfl, fun h => h.2 rfl, T.base.size, ?_⟩, fun h => by simp at h, fun h => by simp [h10] at h, fun h => by simp [h11] at h⟩
  have e1 : tN (fun j => j == 0 || d j) = 0 := by simp [tN, f3, f5, f7, f9]
  have e2 : tG n (fun j => j == 0 || d j) = fun _ => .nil := by funext x; simp [tG, f3, f5, f7, f9]
  rw [e1, e2]
  exact Tab.made _ _ _ _
theorem TI.call2 {w0 w w1 : World} {n : Int} {d : Nat → Bool} {x2 x3 x4 x5 x6 x7 x8 x9 v : Value} {p : Nat → Prop} (T : TI w0 n d x2 x3 x4 x5 x6 x7 x8 x9 p w) (hb : Below w.heap.size w w1) (hl : Lies p (.lowHalf 34) v w1) : TI w0 n (fun j => j == 2 || d j) x2 x3 x4 v x6 x7 x8 x9 p w1 :=
  ⟨Below.step T.base hb, T.since, fun c hc => T.news c (Nat.le_trans hb.size hc), T.moved, fun _ => hl, fun h => Lies.keep (same_below hb p) _ _ (T.g6 h), fun h => Lies.keep (same_below hb p) _ _ (T.g7 h), fun h => Lies.keep (same_below hb p) _ _ (T.g8 h), fun h => by
    obtain ⟨m, h3, hp, hm, ht⟩ := T.map h
    exact ⟨m, h3, hp, hm, ht.keep hb⟩, T.fresh, T.x9e, T.x2e⟩
theorem TI.call4 {w0 w w1 : World} {n : Int} {d : Nat → Bool} {x2 x3 x4 x5 x6 x7 x8 x9 v : Value} {p : Nat → Prop} (T : TI w0 n d x2 x3 x4 x5 x6 x7 x8 x9 p w) (hb : Below w.heap.size w w1) (hl : Lies p (.lowHalf 21) v w1) : TI w0 n (fun j => j == 4 || d j) x2 x3 x4 x5 v x7 x8 x9 p w1 :=
  ⟨Below.step T.base hb, T.since, fun c hc => T.news c (Nat.le_trans hb.size hc), T.moved, fun h => Lies.keep (same_below hb p) _ _ (T.g5 h), fun _ => hl, fun h => Lies.keep (same_below hb p) _ _ (T.g7 h), fun h => Lies.keep (same_below hb p) _ _ (T.g8 h), fun h => by
    obtain ⟨m, h3, hp, hm, ht⟩ := T.map h
    exact ⟨m, h3, hp, hm, ht.keep hb⟩, T.fresh, T.x9e, T.x2e⟩
theorem TI.call6 {w0 w w1 : World} {n : Int} {d : Nat → Bool} {x2 x3 x4 x5 x6 x7 x8 x9 v : Value} {p : Nat → Prop} (T : TI w0 n d x2 x3 x4 x5 x6 x7 x8 x9 p w) (hb : Below w.heap.size w w1) (hl : Lies p (.lowHalf 22) v w1) : TI w0 n (fun j => j == 6 || d j) x2 x3 x4 x5 x6 v x8 x9 p w1 :=
  ⟨Below.step T.base hb, T.since, fun c hc => T.news c (Nat.le_trans hb.size hc), T.moved, fun h => Lies.keep (same_below hb p) _ _ (T.g5 h), fun h => Lies.keep (same_below hb p) _ _ (T.g6 h), fun _ => hl, fun h => Lies.keep (same_below hb p) _ _ (T.g8 h), fun h => by
    obtain ⟨m, h3, hp, hm, ht⟩ := T.map h
    exact ⟨m, h3, hp, hm, ht.keep hb⟩, T.fresh, T.x9e, T.x2e⟩
theorem TI.call8 {w0 w w1 : World} {n : Int} {d : Nat → Bool} {x2 x3 x4 x5 x6 x7 x8 x9 v : Value} {p : Nat → Prop} (T : TI w0 n d x2 x3 x4 x5 x6 x7 x8 x9 p w) (hb : Below w.heap.size w w1) (hl : Lies p (.lowHalf 35) v w1) : TI w0 n (fun j => j == 8 || d j) x2 x3 x4 x5 x6 x7 v x9 p w1 :=
  ⟨Below.step T.base hb, T.since, fun c hc => T.news c (Nat.le_trans hb.size hc), T.moved, fun h => Lies.keep (same_below hb p) _ _ (T.g5 h), fun h => Lies.keep (same_below hb p) _ _ (T.g6 h), fun h => Lies.keep (same_below hb p) _ _ (T.g7 h), fun _ => hl, fun h => by
    obtain ⟨m, h3, hp, hm, ht⟩ := T.map h
    exact ⟨m, h3, hp, hm, ht.keep hb⟩, T.fresh, T.x9e, T.x2e⟩
theorem TI.put3 {w0 w w1 : World} {n : Int} {d : Nat → Bool} {x2 x3 x4 x5 x6 x7 x8 x9 : Value} {p : Nat → Prop} {m : Nat} (T : TI w0 n d x2 x3 x4 x5 x6 x7 x8 x9 p w) (hn : n ≠ 12 ∧ n ≠ 13 ∧ n ≠ 14) (hd : d 3 = false) (h0 : d 0 = true) (hx3 : x3 = .map (some m)) (hp : ¬ p m) (hm : w0.heap.size ≤ m) (hg : w.grownBy w1 (some m)) (ht : Tab p 3 .i64 m (tN d + 1) (upd (tG n d) n (.lowHalf 34)) w1) : TI w0 n (fun j => j == 3 || d j) x2 x3 x4 x5 x6 x7 x8 x9 p w1 := by
  have hs : Same p w w1 := fun c hc hl => hg.block c hl (fun e => by injection e with e; exact hp (e ▸ hc))
  refine ⟨grown_below T.base hg (Nat.le_refl _) hm, T.since, fun c hc => T.news c (Nat.le_trans hg.size hc), T.moved, fun h => Lies.keep hs _ _ (T.g5 h), fun h => Lies.keep hs _ _ (T.g6 h), fun h => Lies.keep hs _ _ (T.g7 h), fun h => Lies.keep hs _ _ (T.g8 h), fun _ => ⟨m, hx3, hp, hm, ?_⟩, fun h => by simp [h0] at h, T.x9e, T.x2e⟩
  have e1 : tN (fun j => j == 3 || d j) = tN d + 1 := by simp [tN, hd]; try omega
  have e2 : tG n (fun j => j == 3 || d j) = upd (tG n d) n (.lowHalf 34) := by
    obtain ⟨n1, n2, n3⟩ := hn
    funext x
    unfold upd tG
    by_cases a1 : x = 14
    · subst a1; simp [hd, Ne.symm n3]
    · by_cases a2 : x = 13
      · subst a2; simp [hd, Ne.symm n2]
      · by_cases a3 : x = 12
        · subst a3; simp [hd, Ne.symm n1]
        · by_cases a4 : x = n
          · subst a4; simp [hd, n1, n2, n3]
          · simp [a1, a2, a3, a4]
  rw [e1, e2]
  exact ht
theorem TI.put5 {w0 w w1 : World} {n : Int} {d : Nat → Bool} {x2 x3 x4 x5 x6 x7 x8 x9 : Value} {p : Nat → Prop} {m : Nat} (T : TI w0 n d x2 x3 x4 x5 x6 x7 x8 x9 p w) (hn : n ≠ 12 ∧ n ≠ 13 ∧ n ≠ 14) (hd : d 5 = false) (h0 : d 0 = true) (hx3 : x3 = .map (some m)) (hp : ¬ p m) (hm : w0.heap.size ≤ m) (hg : w.grownBy w1 (some m)) (ht : Tab p 3 .i64 m (tN d + 1) (upd (tG n d) 12 (.lowHalf 21)) w1) : TI w0 n (fun j => j == 5 || d j) x2 x3 x4 x5 x6 x7 x8 x9 p w1 := by
  have hs : Same p w w1 := fun c hc hl => hg.block c hl (fun e => by injection e with e; exact hp (e ▸ hc))
  refine ⟨grown_below T.base hg (Nat.le_refl _) hm, T.since, fun c hc => T.news c (Nat.le_trans hg.size hc), T.moved, fun h => Lies.keep hs _ _ (T.g5 h), fun h => Lies.keep hs _ _ (T.g6 h), fun h => Lies.keep hs _ _ (T.g7 h), fun h => Lies.keep hs _ _ (T.g8 h), fun _ => ⟨m, hx3, hp, hm, ?_⟩, fun h => by simp [h0] at h, T.x9e, T.x2e⟩
  have e1 : tN (fun j => j == 5 || d j) = tN d + 1 := by simp [tN, hd]; try omega
  have e2 : tG n (fun j => j == 5 || d j) = upd (tG n d) 12 (.lowHalf 21) := by
    obtain ⟨n1, n2, n3⟩ := hn
    funext x
    unfold upd tG
    by_cases a1 : x = 14
    · subst a1; simp [hd, Ne.symm n3]
    · by_cases a2 : x = 13
      · subst a2; simp [hd, Ne.symm n2]
      · by_cases a3 : x = 12
        · subst a3; simp [hd]
        · by_cases a4 : x = n
          · subst a4; simp [hd, n1, n2, n3]
          · simp [a1, a2, a3, a4]
  rw [e1, e2]
  exact ht
theorem TI.put7 {w0 w w1 : World} {n : Int} {d : Nat → Bool} {x2 x3 x4 x5 x6 x7 x8 x9 : Value} {p : Nat → Prop} {m : Nat} (T : TI w0 n d x2 x3 x4 x5 x6 x7 x8 x9 p w) (hn : n ≠ 12 ∧ n ≠ 13 ∧ n ≠ 14) (hd : d 7 = false) (h0 : d 0 = true) (hx3 : x3 = .map (some m)) (hp : ¬ p m) (hm : w0.heap.size ≤ m) (hg : w.grownBy w1 (some m)) (ht : Tab p 3 .i64 m (tN d + 1) (upd (tG n d) 13 (.lowHalf 22)) w1) : TI w0 n (fun j => j == 7 || d j) x2 x3 x4 x5 x6 x7 x8 x9 p w1 := by
  have hs : Same p w w1 := fun c hc hl => hg.block c hl (fun e => by injection e with e; exact hp (e ▸ hc))
  refine ⟨grown_below T.base hg (Nat.le_refl _) hm, T.since, fun c hc => T.news c (Nat.le_trans hg.size hc), T.moved, fun h => Lies.keep hs _ _ (T.g5 h), fun h => Lies.keep hs _ _ (T.g6 h), fun h => Lies.keep hs _ _ (T.g7 h), fun h => Lies.keep hs _ _ (T.g8 h), fun _ => ⟨m, hx3, hp, hm, ?_⟩, fun h => by simp [h0] at h, T.x9e, T.x2e⟩
  have e1 : tN (fun j => j == 7 || d j) = tN d + 1 := by simp [tN, hd]; try omega
  have e2 : tG n (fun j => j == 7 || d j) = upd (tG n d) 13 (.lowHalf 22) := by
    obtain ⟨n1, n2, n3⟩ := hn
    funext x
    unfold upd tG
    by_cases a1 : x = 14
    · subst a1; simp [hd, Ne.symm n3]
    · by_cases a2 : x = 13
      · subst a2; simp [hd]
      · by_cases a3 : x = 12
        · subst a3; simp [hd, Ne.symm n1]
        · by_cases a4 : x = n
          · subst a4; simp [hd, n1, n2, n3]
          · simp [a1, a2, a3, a4]
  rw [e1, e2]
  exact ht
theorem TI.put9 {w0 w w1 : World} {n : Int} {d : Nat → Bool} {x2 x3 x4 x5 x6 x7 x8 x9 : Value} {p : Nat → Prop} {m : Nat} (T : TI w0 n d x2 x3 x4 x5 x6 x7 x8 x9 p w) (hn : n ≠ 12 ∧ n ≠ 13 ∧ n ≠ 14) (hd : d 9 = false) (h0 : d 0 = true) (hx3 : x3 = .map (some m)) (hp : ¬ p m) (hm : w0.heap.size ≤ m) (hg : w.grownBy w1 (some m)) (ht : Tab p 3 .i64 m (tN d + 1) (upd (tG n d) 14 (.lowHalf 35)) w1) : TI w0 n (fun j => j == 9 || d j) x2 x3 x4 x5 x6 x7 x8 x9 p w1 := by
  have hs : Same p w w1 := fun c hc hl => hg.block c hl (fun e => by injection e with e; exact hp (e ▸ hc))
  refine ⟨grown_below T.base hg (Nat.le_refl _) hm, T.since, fun c hc => T.news c (Nat.le_trans hg.size hc), T.moved, fun h => Lies.keep hs _ _ (T.g5 h), fun h => Lies.keep hs _ _ (T.g6 h), fun h => Lies.keep hs _ _ (T.g7 h), fun h => Lies.keep hs _ _ (T.g8 h), fun _ => ⟨m, hx3, hp, hm, ?_⟩, fun h => by simp [h0] at h, T.x9e, T.x2e⟩
  have e1 : tN (fun j => j == 9 || d j) = tN d + 1 := by simp [tN, hd]; try omega
  have e2 : tG n (fun j => j == 9 || d j) = upd (tG n d) 14 (.lowHalf 35) := by
    obtain ⟨n1, n2, n3⟩ := hn
    funext x
    unfold upd tG
    by_cases a1 : x = 14
    · subst a1; simp [hd]
    · by_cases a2 : x = 13
      · subst a2; simp [hd, Ne.symm n2]
      · by_cases a3 : x = 12
        · subst a3; simp [hd, Ne.symm n1]
        · by_cases a4 : x = n
          · subst a4; simp [hd, n1, n2, n3]
          · simp [a1, a2, a3, a4]
  rw [e1, e2]
  exact ht

theorem key3 : Keyed Tryz.prog 3 := int_keyed Tryz.underlying3
theorem key5 : Keyed Tryz.prog 5 := int_keyed Tryz.underlying5
theorem tN_le (d : Nat → Bool) : tN d < maxLen := by
  have : tN d ≤ 4 := by
    unfold tN
    have h : ∀ b : Bool, b.toNat ≤ 1 := fun b => by cases b <;> decide
    have := h (d 3); have := h (d 5); have := h (d 7); have := h (d 9)
    omega
  unfold maxLen; omega
set_option maxHeartbeats 1000000 in
theorem timed_any (n : Int) (w : World) (hn : n = 6 ∨ n = 11) : Calls Tryz.prog 100 #[.int .i64 n] w (Timed n w) := by
  have hwf : (Lit.int .i64 n).wf = true := by rcases hn with rfl | rfl <;> decide
  have hne : n ≠ 12 ∧ n ≠ 13 ∧ n ≠ 14 := by omega
  have hkn := keyOf_int_mk (P := Tryz.prog) Tryz.underlying3 hwf
  have Hn := hid hne
  have Hk := hid hkn
  clear hn hwf hne hkn
  go_enter Tryz.func100, Tryz.ntmps100
  go_wp2
  refine wp_region_inv (TInv w n) (by kernel_rfl) (by kernel_rfl) ?_ ?_ ?_
  · exact ⟨_, _, _, _, _, _, _, _, From w.heap.size, rfl, ⟨(Below.refl _ _).drew, fun _ h => h, fun _ h => h, fun h => by simp at h, fun h => by simp at h, fun h => by simp at h, fun h => by simp at h, fun h => by simp at h, fun h => by simp at h, fun _ => ⟨rfl, rfl, rfl, rfl⟩, fun h => by simp at h, fun h => by simp at h⟩⟩
  · intro d a w1 hd hI
    obtain ⟨x3, x4, x5, x6, x7, x8, x9, m, rfl, hT⟩ := timed_end hd hI
    have HT := hid hT
    clear hT hI hd
    go_wp2
    go_ret
    exact HT
  · intro i oi d a w1 hoi hdi hdeps hI
    obtain ⟨x2, x3, x4, x5, x6, x7, x8, x9, p, rfl, T⟩ := hI
    have hi12 : i < 12 := (Array.getElem?_eq_some_iff.1 hoi).1
    match i, hi12 with
    | 0, _ =>
      cases hoi
      refine wpOp_do rfl rfl ?_
      have T' := hid (T.make hdi)
      clear T hdi hdeps
      go_simp
      exact ⟨_, _, _, _, _, _, _, _, _, rfl, T'⟩
    | 1, _ =>
      cases hoi
      refine wpOp_do rfl rfl ?_
      have T' := hid T.move
      clear T hdi hdeps
      go_simp
      exact ⟨_, _, _, _, _, _, _, _, _, rfl, T'⟩
    | 2, _ =>
      cases hoi
      refine wpOp_do rfl rfl ?_
      have HT := hid T
      clear T hdi hdeps
      go_simp
      go_at_call 126
      refine (lowHalf_any p _ _ HT.out.news).mono ?_
      rintro e w2 ⟨f, cap, rfl, hl, hb⟩
      have T' := hid (HT.out.call2 hb hl)
      clear HT hl hb
      go_simp
      exact ⟨_, _, _, _, _, _, _, _, _, rfl, T'⟩
    | 3, _ =>
      cases hoi
      refine wpOp_do rfl rfl ?_
      have h0 : d 0 = true := hdeps ⟨0, .data⟩ (by simp) (by rfl)
      have h2 : d 2 = true := hdeps ⟨2, .data⟩ (by simp) (by rfl)
      obtain ⟨m, rfl, hp, hm, ht⟩ := T.map h0
      obtain rfl := T.moved (hdeps ⟨1, .data⟩ (by simp) (by rfl))
      exact wp_insert_tab w1 _ _ _ 87 rfl 3 77 key3 Tryz.underlying87 rfl ht (tN_le d) n Hk _ (T.g5 h2) hp fun w2 r1 r2 => ⟨_, _, _, _, _, _, _, _, _, rfl, T.put3 Hn hdi h0 rfl hp hm r2 r1⟩
    | 4, _ =>
      cases hoi
      refine wpOp_do rfl rfl ?_
      have HT := hid T
      clear T hdi hdeps
      go_simp
      go_at_call 126
      refine (lowHalf_any p _ _ HT.out.news).mono ?_
      rintro e w2 ⟨f, cap, rfl, hl, hb⟩
      have T' := hid (HT.out.call4 hb hl)
      clear HT hl hb
      go_simp
      exact ⟨_, _, _, _, _, _, _, _, _, rfl, T'⟩
    | 5, _ =>
      cases hoi
      refine wpOp_do rfl rfl ?_
      have h0 : d 0 = true := hdeps ⟨0, .data⟩ (by simp) (by rfl)
      have h2 : d 4 = true := hdeps ⟨4, .data⟩ (by simp) (by rfl)
      obtain ⟨m, rfl, hp, hm, ht⟩ := T.map h0
      exact wp_insert_tab w1 _ _ _ 87 rfl 3 77 key3 Tryz.underlying87 rfl ht (tN_le d) 12 (keyOf_int_mk Tryz.underlying3 (by decide)) _ (T.g6 h2) hp fun w2 r1 r2 => ⟨_, _, _, _, _, _, _, _, _, rfl, T.put5 Hn hdi h0 rfl hp hm r2 r1⟩
    | 6, _ =>
      cases hoi
      refine wpOp_do rfl rfl ?_
      have HT := hid T
      clear T hdi hdeps
      go_simp
      go_at_call 126
      refine (lowHalf_any p _ _ HT.out.news).mono ?_
      rintro e w2 ⟨f, cap, rfl, hl, hb⟩
      have T' := hid (HT.out.call6 hb hl)
      clear HT hl hb
      go_simp
      exact ⟨_, _, _, _, _, _, _, _, _, rfl, T'⟩
    | 7, _ =>
      cases hoi
      refine wpOp_do rfl rfl ?_
      have h0 : d 0 = true := hdeps ⟨0, .data⟩ (by simp) (by rfl)
      have h2 : d 6 = true := hdeps ⟨6, .data⟩ (by simp) (by rfl)
      obtain ⟨m, rfl, hp, hm, ht⟩ := T.map h0
      exact wp_insert_tab w1 _ _ _ 87 rfl 3 77 key3 Tryz.underlying87 rfl ht (tN_le d) 13 (keyOf_int_mk Tryz.underlying3 (by decide)) _ (T.g7 h2) hp fun w2 r1 r2 => ⟨_, _, _, _, _, _, _, _, _, rfl, T.put7 Hn hdi h0 rfl hp hm r2 r1⟩
    | 8, _ =>
      cases hoi
      refine wpOp_do rfl rfl ?_
      have HT := hid T
      clear T hdi hdeps
      go_simp
      go_at_call 126
      refine (lowHalf_any p _ _ HT.out.news).mono ?_
      rintro e w2 ⟨f, cap, rfl, hl, hb⟩
      have T' := hid (HT.out.call8 hb hl)
      clear HT hl hb
      go_simp
      exact ⟨_, _, _, _, _, _, _, _, _, rfl, T'⟩
    | 9, _ =>
      cases hoi
      refine wpOp_do rfl rfl ?_
      have h0 : d 0 = true := hdeps ⟨0, .data⟩ (by simp) (by rfl)
      have h2 : d 8 = true := hdeps ⟨8, .data⟩ (by simp) (by rfl)
      obtain ⟨m, rfl, hp, hm, ht⟩ := T.map h0
      exact wp_insert_tab w1 _ _ _ 87 rfl 3 77 key3 Tryz.underlying87 rfl ht (tN_le d) 14 (keyOf_int_mk Tryz.underlying3 (by decide)) _ (T.g8 h2) hp fun w2 r1 r2 => ⟨_, _, _, _, _, _, _, _, _, rfl, T.put9 Hn hdi h0 rfl hp hm r2 r1⟩
    | 10, _ =>
      cases hoi
      refine wpOp_do rfl rfl ?_
      have h0 : d 0 = true := hdeps ⟨0, .data⟩ (by simp) (by rfl)
      have h11 : d 11 = false := by
        cases h : d 11 with
        | false => rfl
        | true => have := (T.x2e h).1; rw [hdi] at this; cases this
      have T' := hid (T.nine h0 h11)
      clear T hdi hdeps h0 h11
      go_simp
      exact ⟨_, _, _, _, _, _, _, _, _, rfl, T'⟩
    | 11, _ =>
      cases hoi
      refine wpOp_do rfl rfl ?_
      have h0 : d 10 = true := hdeps ⟨10, .data⟩ (by simp) (by rfl)
      have T' := hid (T.two h0)
      clear T hdi hdeps h0
      go_simp
      exact ⟨_, _, _, _, _, _, _, _, _, rfl, T'⟩
end Go.Proofs.YtkpielgdfahanaaGreat
