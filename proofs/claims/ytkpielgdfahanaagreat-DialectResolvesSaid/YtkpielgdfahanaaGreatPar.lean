/- A region whose order of evaluation is left open, where the operations' values hang on a few numbers that some of them choose (addresses). -/
import Derived.Test.YtkpielgdfahanaaGreatPure
import Derived.Test.YtkpielgdfahanaaGreatRRes
namespace Go.Proofs.YtkpielgdfahanaaGreat
open Go.RowKit Go.Maps
section
variable {P : Program} {ops : Array Oper} {Q : Exit → Act → World → Prop} {α : Type}
theorem wp_region_inv2 {id : Nat} {a : Act} {w : World} (I : (Nat → Bool) → Act → World → Prop) (hm : P.follows .mixedOrders = true)
    (hdep : (ops.toList.zipIdx.all fun x => x.1.after.all fun e => !Region.binds .any e || decide (e.on < x.2)) = true)
    (h0 : I (fun _ => false) a w.drew) (hend : ∀ d a w, (∀ j, j < ops.size → d j = true) → I d a w → Q .normal a w)
    (hstep : ∀ i oi d a w, ops[i]? = some oi → d i = false → (∀ e ∈ oi.after, Region.binds .any e = true → d e.on = true) → I d a w → wpOp P ops Q i (I (fun j => j == i || d j)) a w) :
    (Code.region id ops true).wp P Q a w := by
  refine wp_region_any hm (wpAny_inv I (fun i oi hoi e he hb => ?_) hend hstep _ _ _ _ (by simp) ?_ ?_)
  · rw [List.all_eq_true] at hdep
    have := hdep (oi, i) (by
      rw [List.mem_zipIdx_iff_getElem?]
      simpa using hoi)
    simp only [Array.all_eq_true_iff_forall_mem] at this
    have h1 := this e he
    rw [hb] at h1
    simpa using h1
  · unfold undone
    exact Nat.le_trans List.countP_le_length (by simp)
  · have : (fun j => (Array.replicate ops.size false).getD j false) = fun _ : Nat => false := by funext j; by_cases h : j < ops.size <;> simp [Array.getD, h]
    rw [this]
    exact h0
/-- What an operation leaves: its own slot, and a choice that what has been done does not hang on. -/
def SteppedP (fr : (Nat → Value) → Array Value) (val : α → Nat → Value) (R : (Nat → Bool) → α → World → Prop) (d : Nat → Bool) (p : α) (i : Nat) (X : Nat → Value) (a' : Act) (w' : World) : Prop :=
  ∃ p', a' = ⟨fr (fun j => if j = i then val p' i else X j), []⟩ ∧ (∀ j, d j = true → val p' j = val p j) ∧ R (fun j => j == i || d j) p' w'
theorem wp_region_par {id n : Nat} {a : Act} {w : World} (fr : (Nat → Value) → Array Value) (val : α → Nat → Value) (R : (Nat → Bool) → α → World → Prop) (X0 : Nat → Value) (p0 : α) (hm : P.follows .mixedOrders = true) (hn : ops.size = n)
    (hdep : (ops.toList.zipIdx.all fun x => x.1.after.all fun e => !Region.binds .any e || decide (e.on < x.2)) = true)
    (ha : a = ⟨fr X0, []⟩) (hR : R (fun _ => false) p0 w.drew)
    (hfr : ∀ p X, (∀ j, j < n → X j = val p j) → fr X = fr (val p))
    (hstep : ∀ i oi, ops[i]? = some oi → ∀ d p X w, d i = false → (∀ e ∈ oi.after, Region.binds .any e = true → X e.on = val p e.on ∧ d e.on = true) → R d p w → wpOp P ops Q i (SteppedP fr val R d p i X) ⟨fr X, []⟩ w)
    (hend : ∀ d p w, (∀ j, j < n → d j = true) → R d p w → Q .normal ⟨fr (val p), []⟩ w) : (Code.region id ops true).wp P Q a w := by
  subst ha
  refine wp_region_inv2 (fun d a w => ∃ p X, a = ⟨fr X, []⟩ ∧ (∀ j, d j = true → X j = val p j) ∧ R d p w) hm hdep ⟨p0, X0, rfl, (fun j h => by cases h), hR⟩ ?_ ?_
  · rintro d a w hd ⟨p, X, rfl, hX, hr⟩
    rw [hfr p X fun j hj => hX j (hd j (by omega))]
    exact hend d p w (fun j hj => hd j (by omega)) hr
  · rintro i oi d a w hoi hdi hdeps ⟨p, X, rfl, hX, hr⟩
    refine wpOp_mono ?_ (hstep i oi hoi d p X w hdi (fun e he hb => ⟨hX e.on (hdeps e he hb), hdeps e he hb⟩) hr)
    rintro a' w' ⟨p', rfl, hp, hr'⟩
    refine ⟨p', _, rfl, fun j hj => ?_, hr'⟩
    by_cases e : j = i
    · subst e; simp
    · simp only [e, if_false]
      have hd : d j = true := by simpa [e] using hj
      rw [hX j hd, hp j hd]
theorem SteppedP.mk2 {fr : (Nat → Value) → Array Value} {val : α → Nat → Value} {R : (Nat → Bool) → α → World → Prop} {d : Nat → Bool} {p : α} {i : Nat} {X : Nat → Value} {w' : World} (p' : α) (X' : Nat → Value) (hX : ∀ j, j ≠ i → X' j = X j) (hi : X' i = val p' i) (hp : ∀ j, d j = true → val p' j = val p j) (hR : R (fun j => j == i || d j) p' w') : SteppedP fr val R d p i X ⟨fr X', []⟩ w' := by
  have : X' = fun j => if j = i then val p' i else X j := by
    funext j
    by_cases e : j = i
    · subst e; simp [hi]
    · simp [e, hX j e]
  rw [this]
  exact ⟨p', rfl, hp, hR⟩
end
/-- What a Resolve within a region leaves: its operations' row and the box of its memory. -/
structure RR (w0 : World) (O : List Opn) (N : List Int) (d : Nat → Bool) (p : Value × Nat) (w : World) : Prop where
  b : BelowW w0 w
  ops : d 6 = true → w.ownsRow w0.heap.size 50 3 p.1 O.length (opCells O)
  box : d 11 = true → w0.heap.size ≤ p.2 ∧ w.heap[p.2]? = some (.cells (memV (if d 13 = true then N else zeroM)) 28 (0, 0))
  ap : d 6 = true → d 11 = true → p.1.ownBlock ≠ some p.2
  cl : (d 7 = true → d 6 = true) ∧ (d 8 = true → d 6 = true) ∧ (d 12 = true → d 6 = true) ∧ (d 13 = true → d 11 = true)
section
variable {w0 : World} {O : List Opn} {N : List Int} {d : Nat → Bool} {p : Value × Nat} {w : World}
theorem RR.start (w0 : World) (O : List Opn) (N : List Int) (p : Value × Nat) : RR w0 O N (fun _ => false) p w0.drew :=
  ⟨⟨rfl, rfl, rfl, Nat.le_refl _, fun _ _ => rfl⟩, (fun h => (by cases h)), (fun h => (by cases h)), (fun h => (by cases h)), (fun h => (by cases h)), (fun h => (by cases h)), (fun h => (by cases h)), (fun h => (by cases h))⟩
/-- An operation that touches nothing. -/
theorem RR.pure (h : RR w0 O N d p w) (i : Nat) (h6 : i ≠ 6) (h11 : i ≠ 11) (h13 : i ≠ 13) (hd : i = 7 ∨ i = 8 ∨ i = 12 → d 6 = true) : RR w0 O N (fun j => j == i || d j) p w := by
  have e : ∀ k, k ≠ i → ((k == i || d k) = d k) := fun k hk => by simp [beq_eq_false_iff_ne.2 hk]
  have e6 := e 6 (fun x => h6 x.symm)
  have e11 := e 11 (fun x => h11 x.symm)
  have e13 := e 13 (fun x => h13 x.symm)
  have up : ∀ k, (k = 7 ∨ k = 8 ∨ k = 12) → (d k = true → d 6 = true) → (k == i || d k) = true → d 6 = true := fun k hk hc hh => by
    by_cases hki : k = i
    · exact hd (hki ▸ hk)
    · rw [e k hki] at hh; exact hc hh
  refine ⟨h.b, fun k => h.ops (by rw [← e6]; exact k), fun k => ?_, fun k l => h.ap (by rw [← e6]; exact k) (by rw [← e11]; exact l), fun k => ?_, fun k => ?_, fun k => ?_, fun k => ?_⟩
  · simp only [e13]
    exact h.box (by rw [← e11]; exact k)
  · show (6 == i || d 6) = true
    rw [e6]; exact up 7 (Or.inl rfl) h.cl.1 k
  · show (6 == i || d 6) = true
    rw [e6]; exact up 8 (Or.inr (Or.inl rfl)) h.cl.2.1 k
  · show (6 == i || d 6) = true
    rw [e6]; exact up 12 (Or.inr (Or.inr rfl)) h.cl.2.2.1 k
  · show (11 == i || d 11) = true
    rw [e11]; exact h.cl.2.2.2 (by rw [← e13]; exact k)
/-- The call. -/
theorem RR.call (h : RR w0 O N d p w) {v : Value} {w' : World} (ho : w'.ownsRow w.heap.size 50 3 v O.length (opCells O)) (hb : BelowW w w') : RR w0 O N (fun j => j == 6 || d j) (v, p.2) w' := by
  have e : ∀ k, k ≠ 6 → ((k == 6 || d k) = d k) := fun k hk => by simp [beq_eq_false_iff_ne.2 hk]
  have f : (6 == 6 || d 6) = true := rfl
  refine ⟨h.b.step hb, fun _ => World.ownsRow.base ho h.b.size, fun k => ?_, fun _ k hx => ?_, fun _ => f, fun _ => f, fun _ => f, fun k => ?_⟩
  · rw [e 11 (by decide)] at k
    have hx := h.box k
    simp only [e 13 (by decide)]
    exact ⟨hx.1, (hb.block _ (Array.getElem?_eq_some_iff.1 hx.2).1).trans hx.2⟩
  · rw [e 11 (by decide)] at k
    have h1 := (ho.lt _ hx).1
    have h2 := (Array.getElem?_eq_some_iff.1 (h.box k).2).1
    omega
  · show (11 == 6 || d 11) = true
    rw [e 11 (by decide)]
    rw [e 13 (by decide)] at k
    exact h.cl.2.2.2 k
/-- The box is made. -/
theorem RR.alloc (h : RR w0 O N d p w) (h11 : d 11 = false) : RR w0 O N (fun j => j == 11 || d j) (p.1, w.heap.size) (w.alloc (.cells (memV zeroM) 28)) := by
  have e : ∀ k, k ≠ 11 → ((k == 11 || d k) = d k) := fun k hk => by simp [beq_eq_false_iff_ne.2 hk]
  have h13 : d 13 = false := by
    cases hd : d 13 with
    | false => rfl
    | true => rw [h.cl.2.2.2 hd] at h11; cases h11
  refine ⟨h.b.step (below1 _ _), fun k => ?_, fun _ => ?_, fun k _ hx => ?_, fun k => ?_, fun k => ?_, fun k => ?_, fun _ => rfl⟩
  · rw [e 6 (by decide)] at k; exact (h.ops k).alloc _
  · simp only [h13]
    exact ⟨h.b.size, heap_alloc_new w _⟩
  · rw [e 6 (by decide)] at k
    have := ((h.ops k).lt _ hx).2
    exact Nat.lt_irrefl _ this
  · show (6 == 11 || d 6) = true
    rw [e 6 (by decide)]; rw [e 7 (by decide)] at k; exact h.cl.1 k
  · show (6 == 11 || d 6) = true
    rw [e 6 (by decide)]; rw [e 8 (by decide)] at k; exact h.cl.2.1 k
  · show (6 == 11 || d 6) = true
    rw [e 6 (by decide)]; rw [e 12 (by decide)] at k; exact h.cl.2.2.1 k
/-- The memory is stored into it. -/
theorem RR.store (h : RR w0 O N d p w) (h11 : d 11 = true) : RR w0 O N (fun j => j == 13 || d j) p (w.setRow p.2 (memV N)) := by
  have e : ∀ k, k ≠ 13 → ((k == 13 || d k) = d k) := fun k hk => by simp [beq_eq_false_iff_ne.2 hk]
  have hx := h.box h11
  refine ⟨Below.row h.b hx.1 _, fun k => ?_, fun _ => ?_, fun k _ => ?_, fun k => ?_, fun k => ?_, fun k => ?_, fun _ => ?_⟩
  · rw [e 6 (by decide)] at k
    exact (h.ops k).kept (grown_row w p.2 _) (Or.inr fun x => h.ap k h11 x)
  · exact ⟨hx.1, setRow_heap _ _ _ _ _ _ hx.2⟩
  · rw [e 6 (by decide)] at k; exact h.ap k h11
  · show (6 == 13 || d 6) = true
    rw [e 6 (by decide)]; rw [e 7 (by decide)] at k; exact h.cl.1 k
  · show (6 == 13 || d 6) = true
    rw [e 6 (by decide)]; rw [e 8 (by decide)] at k; exact h.cl.2.1 k
  · show (6 == 13 || d 6) = true
    rw [e 6 (by decide)]; rw [e 12 (by decide)] at k; exact h.cl.2.2.1 k
  · show (11 == 13 || d 11) = true
    rw [e 11 (by decide)]; exact h11
end
section
variable {P : Program} {a : Act} {w : World} {o : Oper} {Q : Exit → Act → World → Prop} {K : Act → World → Prop}
theorem wp_load_at (ty : TypeId) (x : Operand) (ho : o.op = .load ty x) (b off : Nat) (hx : a.eval x = .pointer (some ⟨b, off, none⟩)) (cs : Array Value) (d : TypeDesc)
    (hr : RowAt w b off cs.toList) (hu : P.underlying ty = some d) (hd : (match d with | .struct _ | .array _ _ => true | _ => false) = true) (hi : (P.info? ty).map (·.size) = some cs.size)
    (h : K (a.put o.dst (.agg cs)) w) : o.wp P a w K Q := by
  unfold Oper.wp execOp
  simp only [ho, hx, Instr.loadAt, Instr.sureAddr, Sem.run_bind, Sem.run_pure, Result.andThen_ok, run_loadVar_at w b off ty cs d hr hu hd hi]
  exact h
end
/-- The values of a Resolve's operations within its region. -/
def lval (d : Int) (N : List Int) (A : Option Addr) (n cap : Nat) (k : Nat) (x : Addr) (C : Array Value) (N' : List Int) (c : Int) (p : Value × Nat) (j : Nat) : Value :=
  match j with
  | 0 => .int .i64 d | 1 => .agg (memV N) | 2 => .slice A n cap | 3 => .int .i64 (k : Int) | 4 => .pointer (some x) | 5 => .agg C
  | 6 => .tuple #[p.1, .agg (memV N'), .int .i64 c] | 7 => .tuple #[p.1, .agg (memV N'), .int .i64 c] | 8 => p.1 | 9 => .agg (memV N') | 10 => .int .i64 c
  | 11 => .pointer (some ⟨p.2, 0, none⟩) | 12 => p.1 | 13 => undef | 14 => .int .i64 c | _ => undef
theorem lval_g {d : Int} {N : List Int} {A : Option Addr} {n cap : Nat} {k : Nat} {x : Addr} {C : Array Value} {N' : List Int} {c : Int} {v : Value} {g g' : Nat} {j : Nat} (h : j ≠ 11) : lval d N A n cap k x C N' c (v, g) j = lval d N A n cap k x C N' c (v, g') j := by
  unfold lval
  split <;> first | rfl | exact absurd rfl h
theorem lval_v {d : Int} {N : List Int} {A : Option Addr} {n cap : Nat} {k : Nat} {x : Addr} {C : Array Value} {N' : List Int} {c : Int} {v v' : Value} {g : Nat} {j : Nat} (h6 : j ≠ 6) (h7 : j ≠ 7) (h8 : j ≠ 8) (h12 : j ≠ 12) : lval d N A n cap k x C N' c (v, g) j = lval d N A n cap k x C N' c (v', g) j := by
  unfold lval
  split <;> first | rfl | exact absurd rfl h6 | exact absurd rfl h7 | exact absurd rfl h8 | exact absurd rfl h12
def uval (N' : List Int) (_ : Unit) (j : Nat) : Value := match j with | 0 => .agg (memV N') | 1 => .agg (memV N') | _ => undef
/-- Two memories take the place of two others, in whatever order. -/
structure RS (w0 : World) (g4 g7 ga gb : Nat) (N N' : List Int) (d : Nat → Bool) (w : World) : Prop where
  b : BelowW w0 w
  a : w.heap[ga]? = some (.cells (memV N') 28 (0, 0))
  c : w.heap[gb]? = some (.cells (memV N') 28 (0, 0))
  h4 : w.heap[g4]? = some (.cells (memV (if d 2 = true then N' else N)) 28 (0, 0))
  h7 : w.heap[g7]? = some (.cells (memV (if d 3 = true then N' else N)) 28 (0, 0))
  ge : w0.heap.size ≤ g4 ∧ w0.heap.size ≤ g7
  ne : g4 ≠ g7 ∧ ga ≠ g4 ∧ ga ≠ g7 ∧ gb ≠ g4 ∧ gb ≠ g7
section
variable {w0 : World} {g4 g7 ga gb : Nat} {N N' : List Int} {d : Nat → Bool} {w : World}
theorem row_other (w : World) {g k : Nat} (cs : Array Value) (h : k ≠ g) : (w.setRow g cs).heap[k]? = w.heap[k]? := by
  simp only [World.setRow, Array.getElem?_modify]; rw [if_neg (fun e => h e.symm)]
theorem RS.pure (h : RS w0 g4 g7 ga gb N N' d w) (i : Nat) (h2 : i ≠ 2) (h3 : i ≠ 3) : RS w0 g4 g7 ga gb N N' (fun j => j == i || d j) w := by
  have e2 : (2 == i || d 2) = d 2 := by simp [beq_eq_false_iff_ne.2 (fun x : 2 = i => h2 x.symm)]
  have e3 : (3 == i || d 3) = d 3 := by simp [beq_eq_false_iff_ne.2 (fun x : 3 = i => h3 x.symm)]
  refine ⟨h.b, h.a, h.c, ?_, ?_, h.ge, h.ne⟩
  · simp only [e2]; exact h.h4
  · simp only [e3]; exact h.h7
theorem RS.put4 (h : RS w0 g4 g7 ga gb N N' d w) : RS w0 g4 g7 ga gb N N' (fun j => j == 2 || d j) (w.setRow g4 (memV N')) := by
  have e3 : (3 == 2 || d 3) = d 3 := rfl
  refine ⟨Below.row h.b h.ge.1 _, (row_other w _ h.ne.2.1).trans h.a, (row_other w _ h.ne.2.2.2.1).trans h.c, setRow_heap _ _ _ _ _ _ h.h4, ?_, h.ge, h.ne⟩
  simp only [e3]
  exact (row_other w _ (fun e => h.ne.1 e.symm)).trans h.h7
theorem RS.put7 (h : RS w0 g4 g7 ga gb N N' d w) : RS w0 g4 g7 ga gb N N' (fun j => j == 3 || d j) (w.setRow g7 (memV N')) := by
  have e2 : (2 == 3 || d 2) = d 2 := rfl
  refine ⟨Below.row h.b h.ge.2 _, (row_other w _ h.ne.2.2.1).trans h.a, (row_other w _ h.ne.2.2.2.2).trans h.c, ?_, setRow_heap _ _ _ _ _ _ h.h7, h.ge, h.ne⟩
  simp only [e2]
  exact (row_other w _ h.ne.1).trans h.h4
end
end Go.Proofs.YtkpielgdfahanaaGreat
