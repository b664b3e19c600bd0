/- Table.Resolve and Resolve: the operations and the memory of a cell, for every dialect, memory and cell. -/
import Derived.Test.YtkpielgdfahanaaGreatMemB
import Derived.Test.YtkpielgdfahanaaGreatPValid
namespace Go.Proofs.YtkpielgdfahanaaGreat
open Go.RowKit Go.Maps
section
variable {P : Program} {w : World} {a : Act} {o : Oper}
theorem still_load_at {K : Act → Prop} (ty : TypeId) (x : Operand) (ho : o.op = .load ty x) (b off : Nat) (hx : a.eval x = .pointer (some ⟨b, off, none⟩))
    (cs : Array Value) (d : TypeDesc) (hr : RowAt w b off cs.toList) (hu : P.underlying ty = some d) (hd : (match d with | .struct _ | .array _ _ => true | _ => false) = true) (hi : (P.info? ty).map (·.size) = some cs.size)
    (hk : K (a.put o.dst (.agg cs))) : o.still P a w K := by
  unfold Oper.still execOp
  simp only [ho, hx, Instr.loadAt, Instr.sureAddr, Sem.run_bind, Sem.run_pure, Result.andThen_ok, run_loadVar_at w b off ty cs d hr hu hd hi]
  exact ⟨rfl, hk⟩
theorem results_tct {fn : Func} {t p u : Tmp} {ty : TypeId} (h : fn.results = #[.tmp t, .cell p ty, .tmp u]) (tmps : Array Value) (w : World) (g : Nat) (tt : TypeId) (cs : Array Value) (fr : Nat × Nat) (d : TypeDesc)
    (hp : tmps.getD p undef = .pointer (some ⟨g, 0, none⟩)) (hg : w.heap[g]? = some (.cells cs tt fr)) (hu : P.underlying ty = some d) (hd : (match d with | .struct _ | .array _ _ => true | _ => false) = true) (hi : (P.info? ty).map (·.size) = some cs.size) :
    (results fn tmps).run P w = .ok (.tuple #[tmps.getD t undef, .agg cs, tmps.getD u undef]) w := by
  have e : (results fn tmps).run P w = ((asAddr (tmps.getD p undef)).run P w).andThen fun a w₁ => ((loadVar ty a).run P w₁).andThen fun v w₂ => .ok (.tuple #[tmps.getD t undef, v, tmps.getD u undef]) w₂ := by
    simp only [results, h]
    simp [Sem.run_bind, Result.andThen]
  rw [e, hp]
  simp [asAddr, Result.andThen, run_loadVar_row w g tt ty cs fr d hg hu hd hi]
end
def zeroM : List Int := List.replicate 26 0
theorem zeroM_len : zeroM.length = 26 := rfl
/-- What Resolve hands back: operations, a memory, an error. -/
def Res (O : List (Int × Int × Int)) (M : List Int) (c : Int) (w : World) (e : Ending) (w' : World) : Prop :=
  ∃ v, e = .returned (.tuple #[v, .agg (memV M), .int .i64 c]) ∧ w'.ownsRow w.heap.size 50 3 v O.length (opCells O) ∧ BelowW w w'
/-- The four boxes that Resolve begins with. -/
structure Boxes4 (w : World) (M : List Int) (d note inst vc va e p : Int) (n0 n1 n2 n3 : Nat) (w4 : World) : Prop where
  t0 : w4.heap[n0]? = some (.cells #[.int .i64 d, .map none] 53 (0, 0))
  t1 : w4.heap[n1]? = some (.cells (memV M) 28 (0, 0))
  t2 : w4.heap[n2]? = some (.cells #[.int .i64 note, .int .i64 inst, .int .i64 vc, .int .i64 va, .int .i64 e, .int .i64 p] 23 (0, 0))
  t3 : w4.heap[n3]? = some (.cells (memV zeroM) 28 (0, 0))
  below : BelowW w w4
  le : w.heap.size ≤ n3 ∧ n0 < n3 ∧ n1 < n3 ∧ n2 < n3
theorem Boxes4.next {w : World} {M : List Int} {d note inst vc va e p : Int} {n0 n1 n2 n3 : Nat} {w4 w5 : World} (h : Boxes4 w M d note inst vc va e p n0 n1 n2 n3 w4) (hb : Below w4.heap.size w4 w5) : Boxes4 w M d note inst vc va e p n0 n1 n2 n3 w5 := by
  have l : n3 < w4.heap.size := (Array.getElem?_eq_some_iff.1 h.t3).1
  have := h.le
  exact ⟨(hb.block _ (by omega)).trans h.t0, (hb.block _ (by omega)).trans h.t1, (hb.block _ (by omega)).trans h.t2, (hb.block _ l).trans h.t3, Below.step h.below hb, h.le⟩
theorem Boxes4.drew {w : World} {M : List Int} {d note inst vc va e p : Int} {n0 n1 n2 n3 : Nat} {w4 : World} (h : Boxes4 w M d note inst vc va e p n0 n1 n2 n3 w4) : Boxes4 w M d note inst vc va e p n0 n1 n2 n3 w4.drew :=
  ⟨h.t0, h.t1, h.t2, h.t3, ⟨h.below.os, h.below.tape, h.below.output, h.below.size, h.below.block⟩, h.le⟩
theorem Boxes4.made (w : World) (M : List Int) (d note inst vc va e p : Int) : Boxes4 w M d note inst vc va e p w.heap.size (w.heap.size + 1) (w.heap.size + 1 + 1) (w.heap.size + 1 + 1 + 1)
    ((((w.alloc (.cells #[.int .i64 d, .map none] 53)).alloc (.cells (memV M) 28)).alloc (.cells #[.int .i64 note, .int .i64 inst, .int .i64 vc, .int .i64 va, .int .i64 e, .int .i64 p] 23)).alloc (.cells (memV zeroM) 28)) := by
  have B := Boxes.made w M d note inst vc va e p
  have hz : (((w.alloc (.cells #[.int .i64 d, .map none] 53)).alloc (.cells (memV M) 28)).alloc (.cells #[.int .i64 note, .int .i64 inst, .int .i64 vc, .int .i64 va, .int .i64 e, .int .i64 p] 23)).heap.size = w.heap.size + 1 + 1 + 1 := by simp
  refine ⟨((below1 _ _).block _ (by omega)).trans B.t0, ((below1 _ _).block _ (by omega)).trans B.t1, ((below1 _ _).block _ (by omega)).trans B.t2, ?_, Below.step B.below (below1 _ _), by omega, by omega, by omega, by omega⟩
  rw [← hz]; exact heap_alloc_new _ _
theorem Boxes4.cells {w : World} {M : List Int} {d note inst vc va e p : Int} {n0 n1 n2 n3 : Nat} {w4 : World} (h : Boxes4 w M d note inst vc va e p n0 n1 n2 n3 w4) :
    w4.cell? ⟨n0, 0, none⟩ = some (.int .i64 d) ∧ w4.cell? ⟨n0, 1, none⟩ = some (.map none) ∧ w4.cell? ⟨n2, 0, none⟩ = some (.int .i64 note) ∧ w4.cell? ⟨n2, 1, none⟩ = some (.int .i64 inst) ∧ w4.cell? ⟨n2, 2, none⟩ = some (.int .i64 vc) ∧
      w4.cell? ⟨n2, 3, none⟩ = some (.int .i64 va) ∧ w4.cell? ⟨n2, 4, none⟩ = some (.int .i64 e) ∧ w4.cell? ⟨n2, 5, none⟩ = some (.int .i64 p) := by
  refine ⟨?_, ?_, ?_, ?_, ?_, ?_, ?_, ?_⟩
  · rw [cell_of_row w4 n0 0 _ _ _ h.t0]; rfl
  · rw [cell_of_row w4 n0 1 _ _ _ h.t0]; rfl
  · rw [cell_of_row w4 n2 0 _ _ _ h.t2]; rfl
  · rw [cell_of_row w4 n2 1 _ _ _ h.t2]; rfl
  · rw [cell_of_row w4 n2 2 _ _ _ h.t2]; rfl
  · rw [cell_of_row w4 n2 3 _ _ _ h.t2]; rfl
  · rw [cell_of_row w4 n2 4 _ _ _ h.t2]; rfl
  · rw [cell_of_row w4 n2 5 _ _ _ h.t2]; rfl
/-- The three boxes that the function Resolve begins with. -/
structure Boxes3 (w : World) (M : List Int) (note inst vc va e p : Int) (n1 n2 n3 : Nat) (w4 : World) : Prop where
  t1 : w4.heap[n1]? = some (.cells (memV M) 28 (0, 0))
  t2 : w4.heap[n2]? = some (.cells #[.int .i64 note, .int .i64 inst, .int .i64 vc, .int .i64 va, .int .i64 e, .int .i64 p] 23 (0, 0))
  t3 : w4.heap[n3]? = some (.cells (memV zeroM) 28 (0, 0))
  below : BelowW w w4
  le : w.heap.size ≤ n3 ∧ n1 < n3 ∧ n2 < n3
theorem Boxes3.next {w : World} {M : List Int} {note inst vc va e p : Int} {n1 n2 n3 : Nat} {w4 w5 : World} (h : Boxes3 w M note inst vc va e p n1 n2 n3 w4) (hb : Below w4.heap.size w4 w5) : Boxes3 w M note inst vc va e p n1 n2 n3 w5 := by
  have l : n3 < w4.heap.size := (Array.getElem?_eq_some_iff.1 h.t3).1
  have := h.le
  exact ⟨(hb.block _ (by omega)).trans h.t1, (hb.block _ (by omega)).trans h.t2, (hb.block _ l).trans h.t3, Below.step h.below hb, h.le⟩
theorem Boxes3.cells {w : World} {M : List Int} {note inst vc va e p : Int} {n1 n2 n3 : Nat} {w4 : World} (h : Boxes3 w M note inst vc va e p n1 n2 n3 w4) :
    w4.cell? ⟨n2, 0, none⟩ = some (.int .i64 note) ∧ w4.cell? ⟨n2, 1, none⟩ = some (.int .i64 inst) ∧ w4.cell? ⟨n2, 2, none⟩ = some (.int .i64 vc) ∧
      w4.cell? ⟨n2, 3, none⟩ = some (.int .i64 va) ∧ w4.cell? ⟨n2, 4, none⟩ = some (.int .i64 e) ∧ w4.cell? ⟨n2, 5, none⟩ = some (.int .i64 p) := by
  refine ⟨?_, ?_, ?_, ?_, ?_, ?_⟩
  · rw [cell_of_row w4 n2 0 _ _ _ h.t2]; rfl
  · rw [cell_of_row w4 n2 1 _ _ _ h.t2]; rfl
  · rw [cell_of_row w4 n2 2 _ _ _ h.t2]; rfl
  · rw [cell_of_row w4 n2 3 _ _ _ h.t2]; rfl
  · rw [cell_of_row w4 n2 4 _ _ _ h.t2]; rfl
  · rw [cell_of_row w4 n2 5 _ _ _ h.t2]; rfl
theorem Boxes3.made (w : World) (M : List Int) (note inst vc va e p : Int) : Boxes3 w M note inst vc va e p w.heap.size (w.heap.size + 1) (w.heap.size + 1 + 1)
    (((w.alloc (.cells (memV M) 28)).alloc (.cells #[.int .i64 note, .int .i64 inst, .int .i64 vc, .int .i64 va, .int .i64 e, .int .i64 p] 23)).alloc (.cells (memV zeroM) 28)) := by
  refine ⟨?_, ?_, ?_, Below.grow (below2 w _ _) _, by omega, by omega, by omega⟩
  · exact ((below1 _ _).block _ (by simp <;> omega)).trans (((below1 _ _).block _ (by simp)).trans (heap_alloc_new w _))
  · refine ((below1 _ _).block _ (by simp)).trans ?_
    have := heap_alloc_new (w.alloc (.cells (memV M) 28)) (.cells #[.int .i64 note, .int .i64 inst, .int .i64 vc, .int .i64 va, .int .i64 e, .int .i64 p] 23)
    simpa using this
  · have := heap_alloc_new ((w.alloc (.cells (memV M) 28)).alloc (.cells #[.int .i64 note, .int .i64 inst, .int .i64 vc, .int .i64 va, .int .i64 e, .int .i64 p] 23)) (.cells (memV zeroM) 28)
    simpa using this
theorem validB_cell {d note inst vc va e p : Int} (h : validB d note inst vc va e p = true) : (1 ≤ d ∧ d ≤ 6) ∧ CellOk d note inst vc va e p := by
  unfold validB isD cellB at h
  simp only [Bool.and_eq_true, decide_eq_true_eq] at h
  obtain ⟨⟨⟨⟨hd, ⟨_, hv⟩, he⟩, _⟩, hc⟩, _⟩ := h
  have h1 := (volB_iff vc va).1 hv
  have h2 := (effB_iff e p).1 he
  exact ⟨hd, h2.1, h2.2.1, ⟨h1.1.1, hc⟩, h1.2.1⟩
theorem row_M {w : World} {g : Nat} {M : List Int} (h : w.heap[g]? = some (.cells (memV M) 28 (0, 0))) : RowAt w g 0 (memV M).toList := row_of_block h
theorem PAt.row {b base : Nat} {d : Int} {s : St} {v : Value} {rc : Bool} {w : World} (h : PAt b base d s v rc w) : RowAt w b 0 (memV s.M).toList := fun j x hj => by
  have hj' : j < 26 := by
    have := (List.getElem?_eq_some_iff.1 hj).1
    have e := memV_size h.len
    simp at this; omega
  rw [Nat.zero_add, h.cM hj']
  unfold memV at hj
  rw [List.toList_toArray, List.getElem?_map, List.getElem?_eq_getElem (by rw [h.len]; omega)] at hj
  rw [List.getD_eq_getElem?_getD, List.getElem?_eq_getElem (by rw [h.len]; omega)]
  exact hj
theorem World.ownsRow.base {w : World} {B C : Nat} {e : TypeId} {size : Nat} {v : Value} {n : Nat} {xs : List Value} (h : w.ownsRow B e size v n xs) (hB : C ≤ B) : w.ownsRow C e size v n xs := by
  obtain ⟨h1, h2⟩ := h
  refine ⟨h1, ?_⟩
  rcases h2 with h2 | ⟨g, cap, cur, e1, hb, r⟩
  · exact Or.inl h2
  · exact Or.inr ⟨g, cap, cur, e1, Nat.le_trans hB hb, r⟩
theorem grown_row (w : World) (g : Nat) (cs : Array Value) : w.grownBy (w.setRow g cs) (some g) :=
  ⟨rfl, rfl, rfl, by simp [World.setRow], fun i _ hi => by simp only [World.setRow, Array.getElem?_modify]; rw [if_neg (fun e => hi (by rw [e]))]⟩
theorem memV_ones (M : List Int) : (memV M).toList.all (·.oneCell') = true := by simp [memV]; intros; rfl
set_option maxHeartbeats 4000000 in
set_option maxRecDepth 100000 in
theorem pres_A (M : List Int) (hM : M.length = 26) (d note inst vc va e p : Int) (hd : ¬ (1 ≤ d ∧ d ≤ 6)) (w : World) : Calls Tryz.prog 29 #[.agg #[.int .i64 d, .map none], .agg (memV M), .agg #[.int .i64 note, .int .i64 inst, .int .i64 vc, .int .i64 va, .int .i64 e, .int .i64 p]] w (Res [] zeroM 6 w) := by
  have HM := hid hM
  have HX := hid (Boxes4.made w M d note inst vc va e p)
  have HD := hid hd
  clear hd
  clear hM
  go_enter Tryz.func29, Tryz.ntmps29
  go_upto_region 1 with (fail)
  change Hid (Boxes4 w M d note inst vc va e p _ _ _ _ ((((w.alloc (.cells #[.int .i64 d, .map none] 53)).alloc (.cells (memV M) 28)).alloc (.cells #[.int .i64 note, .int .i64 inst, .int .i64 vc, .int .i64 va, .int .i64 e, .int .i64 p] 23)).alloc (.cells #[.int .i64 0, .int .i64 0, .int .i64 0, .int .i64 0, .int .i64 0, .int .i64 0, .int .i64 0, .int .i64 0, .int .i64 0, .int .i64 0, .int .i64 0, .int .i64 0, .int .i64 0, .int .i64 0, .int .i64 0, .int .i64 0, .int .i64 0, .int .i64 0, .int .i64 0, .int .i64 0, .int .i64 0, .int .i64 0, .int .i64 0, .int .i64 0, .int .i64 0, .int .i64 0] 28))) at HX
  generalize ((((w.alloc (.cells #[.int .i64 d, .map none] 53)).alloc (.cells (memV M) 28)).alloc (.cells #[.int .i64 note, .int .i64 inst, .int .i64 vc, .int .i64 va, .int .i64 e, .int .i64 p] 23)).alloc (.cells #[.int .i64 0, .int .i64 0, .int .i64 0, .int .i64 0, .int .i64 0, .int .i64 0, .int .i64 0, .int .i64 0, .int .i64 0, .int .i64 0, .int .i64 0, .int .i64 0, .int .i64 0, .int .i64 0, .int .i64 0, .int .i64 0, .int .i64 0, .int .i64 0, .int .i64 0, .int .i64 0, .int .i64 0, .int .i64 0, .int .i64 0, .int .i64 0, .int .i64 0, .int .i64 0] 28)) = w4 at *
  generalize w.heap.size + 1 + 1 + 1 = n3 at *
  generalize w.heap.size + 1 + 1 = n2 at *
  generalize w.heap.size + 1 = n1 at *
  obtain ⟨n0, hn0⟩ : ∃ n0, n0 = w.heap.size := ⟨_, rfl⟩
  have HX0 : Hid (Boxes4 w M d note inst vc va e p n0 n1 n2 n3 w4) := by rw [hn0]; exact HX
  rw [← hn0]
  clear HX hn0
  obtain ⟨q0, q1, q2, q3, q4, q5, q6, q7⟩ := HX0.out.cells
  go_wp2_with (first | (go_at_call 18; refine (is_no _ _ HD.out).mono ?_; rintro x w5 ⟨rfl, rfl⟩) | (refine wpList_store_block rfl 28 _ _ rfl n3 (memV zeroM) rfl rfl 28 (memV zeroM) HX0.out.t3 (by rw [memV_size zeroM_len]; exact size28) rfl (memV_ones _) ?_))
  exact bodyPost_ret (results_tct rfl _ _ n3 28 (memV zeroM) (0, 0) _ rfl (setRow_heap _ _ _ _ _ _ HX0.out.t3) Tryz.underlying28 rfl (by rw [memV_size zeroM_len]; exact size28)) rfl ⟨_, rfl, World.ownsRow_nil _ _ _ _, Below.row HX0.out.below HX0.out.le.1 _⟩
theorem pmem_is (M : List Int) (hM : M.length = 26) (b : Bool) (h : memB M = b) (w : World) : Calls Tryz.prog 37 #[.agg (memV M)] w fun x w' => x = .returned (.bool b) ∧ Below w.heap.size w w' := by
  subst h; exact pmem_any M hM w
theorem pvalid_is (d note inst vc va e p : Int) (b : Bool) (h : validB d note inst vc va e p = b) (w : World) : Calls Tryz.prog 7 #[.int .i64 d, .agg #[.int .i64 note, .int .i64 inst, .int .i64 vc, .int .i64 va, .int .i64 e, .int .i64 p]] w fun x w' => x = .returned (.bool b) ∧ Below w.heap.size w w' := by
  subst h; exact pvalid_any d note inst vc va e p w
set_option maxHeartbeats 4000000 in
set_option maxRecDepth 100000 in
theorem pres_B (M : List Int) (hM : M.length = 26) (d note inst vc va e p : Int) (d1 : 1 ≤ d) (d2 : d ≤ 6) (hm : memB M = false) (w : World) : Calls Tryz.prog 29 #[.agg #[.int .i64 d, .map none], .agg (memV M), .agg #[.int .i64 note, .int .i64 inst, .int .i64 vc, .int .i64 va, .int .i64 e, .int .i64 p]] w (Res [] zeroM 1 w) := by
  have HM := hid hM
  have HX := hid (Boxes4.made w M d note inst vc va e p)
  have HD := hid (And.intro d1 d2)
  have HMB := hid hm
  clear d1 d2 hm
  clear hM
  go_enter Tryz.func29, Tryz.ntmps29
  go_upto_region 1 with (fail)
  change Hid (Boxes4 w M d note inst vc va e p _ _ _ _ ((((w.alloc (.cells #[.int .i64 d, .map none] 53)).alloc (.cells (memV M) 28)).alloc (.cells #[.int .i64 note, .int .i64 inst, .int .i64 vc, .int .i64 va, .int .i64 e, .int .i64 p] 23)).alloc (.cells #[.int .i64 0, .int .i64 0, .int .i64 0, .int .i64 0, .int .i64 0, .int .i64 0, .int .i64 0, .int .i64 0, .int .i64 0, .int .i64 0, .int .i64 0, .int .i64 0, .int .i64 0, .int .i64 0, .int .i64 0, .int .i64 0, .int .i64 0, .int .i64 0, .int .i64 0, .int .i64 0, .int .i64 0, .int .i64 0, .int .i64 0, .int .i64 0, .int .i64 0, .int .i64 0] 28))) at HX
  generalize ((((w.alloc (.cells #[.int .i64 d, .map none] 53)).alloc (.cells (memV M) 28)).alloc (.cells #[.int .i64 note, .int .i64 inst, .int .i64 vc, .int .i64 va, .int .i64 e, .int .i64 p] 23)).alloc (.cells #[.int .i64 0, .int .i64 0, .int .i64 0, .int .i64 0, .int .i64 0, .int .i64 0, .int .i64 0, .int .i64 0, .int .i64 0, .int .i64 0, .int .i64 0, .int .i64 0, .int .i64 0, .int .i64 0, .int .i64 0, .int .i64 0, .int .i64 0, .int .i64 0, .int .i64 0, .int .i64 0, .int .i64 0, .int .i64 0, .int .i64 0, .int .i64 0, .int .i64 0, .int .i64 0] 28)) = w4 at *
  generalize w.heap.size + 1 + 1 + 1 = n3 at *
  generalize w.heap.size + 1 + 1 = n2 at *
  generalize w.heap.size + 1 = n1 at *
  obtain ⟨n0, hn0⟩ : ∃ n0, n0 = w.heap.size := ⟨_, rfl⟩
  have HX0 : Hid (Boxes4 w M d note inst vc va e p n0 n1 n2 n3 w4) := by rw [hn0]; exact HX
  rw [← hn0]
  clear HX hn0
  obtain ⟨q0, q1, q2, q3, q4, q5, q6, q7⟩ := HX0.out.cells
  have HR1 := hid (row_M HX0.out.t1)
  go_wp2_with (first | (go_at_call 18; refine (is_yes _ _ HD.out.1 HD.out.2).mono ?_; rintro x w5 ⟨rfl, rfl⟩) | (refine wpList_load_at rfl 28 _ rfl n1 0 rfl (memV M) _ HR1.out Tryz.underlying28 rfl (by rw [memV_size HM.out]; exact size28) ?_) | (go_at_call 37; refine (pmem_is M HM.out _ HMB.out _).mono ?_; rintro x w5 ⟨rfl, hb⟩; replace HX0 := hid (HX0.out.next hb); have HR1 := hid (row_M HX0.out.t1); obtain ⟨q0, q1, q2, q3, q4, q5, q6, q7⟩ := HX0.out.cells; clear hb) | (refine wpList_store_block rfl 28 _ _ rfl n3 (memV zeroM) rfl rfl 28 (memV zeroM) HX0.out.t3 (by rw [memV_size zeroM_len]; exact size28) rfl (memV_ones _) ?_))
  exact bodyPost_ret (results_tct rfl _ _ n3 28 (memV zeroM) (0, 0) _ rfl (setRow_heap _ _ _ _ _ _ HX0.out.t3) Tryz.underlying28 rfl (by rw [memV_size zeroM_len]; exact size28)) rfl ⟨_, rfl, World.ownsRow_nil _ _ _ _, Below.row HX0.out.below HX0.out.le.1 _⟩
set_option maxHeartbeats 4000000 in
set_option maxRecDepth 100000 in
theorem pres_C (M : List Int) (hM : M.length = 26) (d note inst vc va e p : Int) (d1 : 1 ≤ d) (d2 : d ≤ 6) (hm : memB M = true) (hv : validB d note inst vc va e p = false) (w : World) : Calls Tryz.prog 29 #[.agg #[.int .i64 d, .map none], .agg (memV M), .agg #[.int .i64 note, .int .i64 inst, .int .i64 vc, .int .i64 va, .int .i64 e, .int .i64 p]] w (Res [] zeroM 1 w) := by
  have HM := hid hM
  have HX := hid (Boxes4.made w M d note inst vc va e p)
  have HD := hid (And.intro d1 d2)
  have HMB := hid hm
  have HV := hid hv
  clear d1 d2 hm hv
  clear hM
  go_enter Tryz.func29, Tryz.ntmps29
  go_upto_region 1 with (fail)
  change Hid (Boxes4 w M d note inst vc va e p _ _ _ _ ((((w.alloc (.cells #[.int .i64 d, .map none] 53)).alloc (.cells (memV M) 28)).alloc (.cells #[.int .i64 note, .int .i64 inst, .int .i64 vc, .int .i64 va, .int .i64 e, .int .i64 p] 23)).alloc (.cells #[.int .i64 0, .int .i64 0, .int .i64 0, .int .i64 0, .int .i64 0, .int .i64 0, .int .i64 0, .int .i64 0, .int .i64 0, .int .i64 0, .int .i64 0, .int .i64 0, .int .i64 0, .int .i64 0, .int .i64 0, .int .i64 0, .int .i64 0, .int .i64 0, .int .i64 0, .int .i64 0, .int .i64 0, .int .i64 0, .int .i64 0, .int .i64 0, .int .i64 0, .int .i64 0] 28))) at HX
  generalize ((((w.alloc (.cells #[.int .i64 d, .map none] 53)).alloc (.cells (memV M) 28)).alloc (.cells #[.int .i64 note, .int .i64 inst, .int .i64 vc, .int .i64 va, .int .i64 e, .int .i64 p] 23)).alloc (.cells #[.int .i64 0, .int .i64 0, .int .i64 0, .int .i64 0, .int .i64 0, .int .i64 0, .int .i64 0, .int .i64 0, .int .i64 0, .int .i64 0, .int .i64 0, .int .i64 0, .int .i64 0, .int .i64 0, .int .i64 0, .int .i64 0, .int .i64 0, .int .i64 0, .int .i64 0, .int .i64 0, .int .i64 0, .int .i64 0, .int .i64 0, .int .i64 0, .int .i64 0, .int .i64 0] 28)) = w4 at *
  generalize w.heap.size + 1 + 1 + 1 = n3 at *
  generalize w.heap.size + 1 + 1 = n2 at *
  generalize w.heap.size + 1 = n1 at *
  obtain ⟨n0, hn0⟩ : ∃ n0, n0 = w.heap.size := ⟨_, rfl⟩
  have HX0 : Hid (Boxes4 w M d note inst vc va e p n0 n1 n2 n3 w4) := by rw [hn0]; exact HX
  rw [← hn0]
  clear HX hn0
  obtain ⟨q0, q1, q2, q3, q4, q5, q6, q7⟩ := HX0.out.cells
  have HR1 := hid (row_M HX0.out.t1)
  go_wp2_with (first | (go_at_call 18; refine (is_yes _ _ HD.out.1 HD.out.2).mono ?_; rintro x w5 ⟨rfl, rfl⟩) | (refine wpList_load_at rfl 28 _ rfl n1 0 rfl (memV M) _ HR1.out Tryz.underlying28 rfl (by rw [memV_size HM.out]; exact size28) ?_) | (go_at_call 37; refine (pmem_is M HM.out _ HMB.out _).mono ?_; rintro x w5 ⟨rfl, hb⟩; replace HX0 := hid (HX0.out.next hb); have HR1 := hid (row_M HX0.out.t1); obtain ⟨q0, q1, q2, q3, q4, q5, q6, q7⟩ := HX0.out.cells; clear hb) | (go_at_call 7; refine (pvalid_is d note inst vc va e p _ HV.out _).mono ?_; rintro x w5 ⟨rfl, hb⟩; replace HX0 := hid (HX0.out.next hb); have HR1 := hid (row_M HX0.out.t1); obtain ⟨q0, q1, q2, q3, q4, q5, q6, q7⟩ := HX0.out.cells; clear hb) | (refine wpList_store_block rfl 28 _ _ rfl n3 (memV zeroM) rfl rfl 28 (memV zeroM) HX0.out.t3 (by rw [memV_size zeroM_len]; exact size28) rfl (memV_ones _) ?_))
  exact bodyPost_ret (results_tct rfl _ _ n3 28 (memV zeroM) (0, 0) _ rfl (setRow_heap _ _ _ _ _ _ HX0.out.t3) Tryz.underlying28 rfl (by rw [memV_size zeroM_len]; exact size28)) rfl ⟨_, rfl, World.ownsRow_nil _ _ _ _, Below.row HX0.out.below HX0.out.le.1 _⟩
set_option maxHeartbeats 4000000 in
set_option maxRecDepth 100000 in
theorem pres_D (M : List Int) (hM : M.length = 26) (d note inst vc va e p : Int) (hm : memB M = true) (hv : validB d note inst vc va e p = true) (w : World) : Calls Tryz.prog 29 #[.agg #[.int .i64 d, .map none], .agg (memV M), .agg #[.int .i64 note, .int .i64 inst, .int .i64 vc, .int .i64 va, .int .i64 e, .int .i64 p]] w (Res (askX d note e p vc va M).O (askX d note e p vc va M).M 0 w) := by
  have HM := hid hM
  have HX := hid (Boxes4.made w M d note inst vc va e p)
  have HD := hid (validB_cell hv).1
  have HC := hid (validB_cell hv).2
  have HMB := hid hm
  have HOK := hid (memB_ok hM hm)
  have HV := hid hv
  clear hm hv
  clear hM
  go_enter Tryz.func29, Tryz.ntmps29
  go_upto_region 1 with (fail)
  change Hid (Boxes4 w M d note inst vc va e p _ _ _ _ ((((w.alloc (.cells #[.int .i64 d, .map none] 53)).alloc (.cells (memV M) 28)).alloc (.cells #[.int .i64 note, .int .i64 inst, .int .i64 vc, .int .i64 va, .int .i64 e, .int .i64 p] 23)).alloc (.cells #[.int .i64 0, .int .i64 0, .int .i64 0, .int .i64 0, .int .i64 0, .int .i64 0, .int .i64 0, .int .i64 0, .int .i64 0, .int .i64 0, .int .i64 0, .int .i64 0, .int .i64 0, .int .i64 0, .int .i64 0, .int .i64 0, .int .i64 0, .int .i64 0, .int .i64 0, .int .i64 0, .int .i64 0, .int .i64 0, .int .i64 0, .int .i64 0, .int .i64 0, .int .i64 0] 28))) at HX
  generalize ((((w.alloc (.cells #[.int .i64 d, .map none] 53)).alloc (.cells (memV M) 28)).alloc (.cells #[.int .i64 note, .int .i64 inst, .int .i64 vc, .int .i64 va, .int .i64 e, .int .i64 p] 23)).alloc (.cells #[.int .i64 0, .int .i64 0, .int .i64 0, .int .i64 0, .int .i64 0, .int .i64 0, .int .i64 0, .int .i64 0, .int .i64 0, .int .i64 0, .int .i64 0, .int .i64 0, .int .i64 0, .int .i64 0, .int .i64 0, .int .i64 0, .int .i64 0, .int .i64 0, .int .i64 0, .int .i64 0, .int .i64 0, .int .i64 0, .int .i64 0, .int .i64 0, .int .i64 0, .int .i64 0] 28)) = w4 at *
  generalize w.heap.size + 1 + 1 + 1 = n3 at *
  generalize w.heap.size + 1 + 1 = n2 at *
  generalize w.heap.size + 1 = n1 at *
  obtain ⟨n0, hn0⟩ : ∃ n0, n0 = w.heap.size := ⟨_, rfl⟩
  have HX0 : Hid (Boxes4 w M d note inst vc va e p n0 n1 n2 n3 w4) := by rw [hn0]; exact HX
  rw [← hn0]
  clear HX hn0
  obtain ⟨q0, q1, q2, q3, q4, q5, q6, q7⟩ := HX0.out.cells
  have HR1 := hid (row_M HX0.out.t1)
  go_upto_region 6 with (first | (go_at_call 18; refine (is_yes _ _ HD.out.1 HD.out.2).mono ?_; rintro x w5 ⟨rfl, rfl⟩) | (refine wpList_load_at rfl 28 _ rfl n1 0 rfl (memV M) _ HR1.out Tryz.underlying28 rfl (by rw [memV_size HM.out]; exact size28) ?_) | (go_at_call 37; refine (pmem_is M HM.out _ HMB.out _).mono ?_; rintro x w5 ⟨rfl, hb⟩; replace HX0 := hid (HX0.out.next hb); have HR1 := hid (row_M HX0.out.t1); obtain ⟨q0, q1, q2, q3, q4, q5, q6, q7⟩ := HX0.out.cells; clear hb) | (go_at_call 7; refine (pvalid_is d note inst vc va e p _ HV.out _).mono ?_; rintro x w5 ⟨rfl, hb⟩; replace HX0 := hid (HX0.out.next hb); have HR1 := hid (row_M HX0.out.t1); obtain ⟨q0, q1, q2, q3, q4, q5, q6, q7⟩ := HX0.out.cells; clear hb) | (go_at_call 38; refine (asked_any M d note inst vc va e p HOK.out HD.out.1 HD.out.2 HC.out _).mono ?_; rintro x w5 ⟨b, v, rc, s', rfl, h1, h2, h3, h4⟩; clear q0 q1 q2 q3 q4 q5 q6 q7 HR1))
  have HBs := hid (Array.getElem?_eq_some_iff.1 HX0.out.t3).1
  have HBl := hid HX0.out.below.size
  have HX5 := hid (HX0.out.next h4)
  have HP := hid h1
  have HM' := hid h2
  have HO' := hid h3
  clear h1 h2 h3 h4 HX0
  go_wp2_with fail
  refine wp_region_still_tail 9 (by kernel_rfl) (by kernel_rfl) ?_
  simp only [List.take_succ_cons, List.take_zero, List.drop_succ_cons, List.drop_zero]
  obtain ⟨wd, hwd⟩ : ∃ z, z = w5.drew := ⟨_, rfl⟩
  have hww : ({ w5 with drawn := w5.drawn + 1 } : World) = wd := hwd.symm
  rw [hww]
  replace HP := hid HP.out.drew
  have HX6 := hid (HX5.out.drew)
  rw [← hwd] at HP HX6
  clear hww hwd HX5
  have c30 := HP.out.asks.at_.ops
  have HRb := hid HP.out.row
  repeat (first
    | (refine wpStill_step (fun K hK => ?_); rw [if_pos (by rfl)]; refine still_load_at 28 _ (by rfl) b 0 (by rfl) (memV s'.M) _ HRb.out Tryz.underlying28 rfl (by rw [memV_size HP.out.len]; exact size28) ?_; (try simp only [Act.put, List.setIfInBounds_toArray, List.set_cons_zero, List.set_cons_succ]); refine hK _ ?_; clear hK K)
    | still_step)
  refine wpStill_nil ?_
  clear c30
  go_wp2_with (refine wpList_store_block rfl 28 _ _ rfl n3 (memV s'.M) rfl rfl 28 (memV zeroM) HX6.out.t3 (by rw [memV_size HP.out.len]; exact size28) (by rw [memV_size HP.out.len]; rfl) (memV_ones _) ?_)
  refine bodyPost_ret (results_tct rfl _ _ n3 28 (memV s'.M) (0, 0) _ rfl (setRow_heap _ _ _ _ _ _ HX6.out.t3) Tryz.underlying28 rfl (by rw [memV_size HP.out.len]; exact size28)) rfl ?_
  rw [← HM'.out, ← HO'.out]
  exact ⟨v, rfl, World.ownsRow.base (HP.out.asks.own.kept (grown_row wd n3 (memV s'.M)) (Or.inr fun e => by have := (HP.out.asks.own.lt _ e).1; have := HBs.out; omega)) HBl.out, Below.row HX6.out.below HX6.out.le.1 _⟩
/-- What Resolve hands back: the operations, the memory and the error of a cell. -/
def resO (d note inst vc va e p : Int) (M : List Int) : List (Int × Int × Int) := if memB M && validB d note inst vc va e p then (askX d note e p vc va M).O else []
def resM (d note inst vc va e p : Int) (M : List Int) : List Int := if memB M && validB d note inst vc va e p then (askX d note e p vc va M).M else zeroM
def resC (d note inst vc va e p : Int) (M : List Int) : Int := if isD d then (if memB M && validB d note inst vc va e p then 0 else 1) else 6
theorem lastS_O (note e p : Int) (s : St) : (lastS note e p s).O = s.O := by
  unfold lastS
  split
  · rfl
  split
  · rfl
  split <;> rfl
theorem lastS_len (note e p : Int) {M : List Int} (h : M.length = 26) : (lastS note e p (st0 M)).M.length = 26 := by
  unfold lastS St.setEP st0
  repeat' split
  all_goals simp [h]
theorem askX_left {d note inst vc va e p : Int} {M : List Int} (m : MemOk M) (c : CellOk d note inst vc va e p) : (askX d note e p vc va M).M.length = 26 ∧ (∀ k, k < 24 → 0 ≤ (askX d note e p vc va M).slot k ∧ (askX d note e p vc va M).slot k ≤ 255) ∧ (askX d note e p vc va M).O.length ≤ 3 := by
  have hmid : ∀ (D E P : Int) (s : St) (k : Nat), Mid s → s.O.length + 2 ≤ k → 0 ≤ P → P ≤ 255 → (effX D E P s).M.length = 26 ∧ (∀ j, j < 24 → 0 ≤ (effX D E P s).slot j ∧ (effX D E P s).slot j ≤ 255) ∧ (effX D E P s).O.length ≤ k := fun D E P s k hm hk h0 h1 => by
    unfold effX
    split
    · have := runE_left (dialG D (letN E)) (dialG_wf _ _) (hm.put h0 h1)
      exact ⟨this.len, this.slots, by have h := this.O; have e : (s.put P).O.length = s.O.length := rfl; omega⟩
    · exact ⟨hm.len, hm.slots, by omega⟩
  have hm0 : Mid (st0 M) := ⟨m.len, m.slots, Nat.zero_le _⟩
  unfold askX
  split
  · obtain ⟨_, h2⟩ := lastR_ok (note := note) m c.e c.p
    have hO : (lastS note e p (st0 M)).O.length = 0 := by rw [lastS_O]; rfl
    exact hmid _ _ _ _ 3 (lastS_mid note e p m) (by omega) h2.1 h2.2
  · unfold colX
    split
    · have hl := colE_left (d == 3) vc va m.ok c.a.1
      have hO : (st0 M).O.length = 0 := rfl
      have h1 := hl.O
      exact hmid _ _ _ _ 3 (Mid.of hl (by omega)) (by omega) c.p.1 c.p.2
    · have hO : (st0 M).O.length = 0 := rfl
      exact hmid _ _ _ _ 3 hm0 (by omega) c.p.1 c.p.2
theorem resM_len (d note inst vc va e p : Int) {M : List Int} (h : M.length = 26) : (resM d note inst vc va e p M).length = 26 := by
  unfold resM
  split
  · rename_i hb
    rw [Bool.and_eq_true] at hb
    obtain ⟨_, hc⟩ := validB_cell hb.2
    exact (askX_left (memB_ok h hb.1) hc).1
  · exact zeroM_len
theorem resO_len (d note inst vc va e p : Int) {M : List Int} (h : M.length = 26) : (resO d note inst vc va e p M).length ≤ 3 := by
  unfold resO
  split
  · rename_i hb
    rw [Bool.and_eq_true] at hb
    obtain ⟨_, hc⟩ := validB_cell hb.2
    exact (askX_left (memB_ok h hb.1) hc).2.2
  · exact Nat.zero_le _
theorem presT_any (M : List Int) (hM : M.length = 26) (d note inst vc va e p : Int) (w : World) : Calls Tryz.prog 29 #[.agg #[.int .i64 d, .map none], .agg (memV M), .agg #[.int .i64 note, .int .i64 inst, .int .i64 vc, .int .i64 va, .int .i64 e, .int .i64 p]] w (Res (resO d note inst vc va e p M) (resM d note inst vc va e p M) (resC d note inst vc va e p M) w) := by
  unfold resO resM resC
  by_cases hd : 1 ≤ d ∧ d ≤ 6
  · have hD : isD d = true := by unfold isD; rw [decide_eq_true hd.1, decide_eq_true hd.2]; rfl
    rw [if_pos hD]
    cases hm : memB M with
    | false => exact pres_B M hM d note inst vc va e p hd.1 hd.2 hm w
    | true =>
      cases hv : validB d note inst vc va e p with
      | false => exact pres_C M hM d note inst vc va e p hd.1 hd.2 hm hv w
      | true => exact pres_D M hM d note inst vc va e p hm hv w
  · have hD : isD d = false := by unfold isD; rw [Bool.and_eq_false_iff, decide_eq_false_iff_not, decide_eq_false_iff_not]; omega
    have hv : validB d note inst vc va e p = false := by unfold validB; rw [hD]; rfl
    rw [hD, hv, Bool.and_false]
    exact pres_A M hM d note inst vc va e p hd w
set_option maxHeartbeats 4000000 in
set_option maxRecDepth 100000 in
theorem pres_any (M : List Int) (hM : M.length = 26) (d note inst vc va e p : Int) (w : World) : Calls Tryz.prog 10 #[.int .i64 d, .agg (memV M), .agg #[.int .i64 note, .int .i64 inst, .int .i64 vc, .int .i64 va, .int .i64 e, .int .i64 p]] w (Res (resO d note inst vc va e p M) (resM d note inst vc va e p M) (resC d note inst vc va e p M) w) := by
  have HM := hid hM
  clear hM
  have HX : Hid (Boxes3 w M note inst vc va e p w.heap.size (w.heap.size + 1) (w.heap.size + 1 + 1) (((w.alloc (.cells (memV M) 28)).alloc (.cells #[.int .i64 note, .int .i64 inst, .int .i64 vc, .int .i64 va, .int .i64 e, .int .i64 p] 23)).alloc (.cells (memV zeroM) 28))) := hid (Boxes3.made w M note inst vc va e p)
  go_enter Tryz.func10, Tryz.ntmps10
  go_upto_region 1 with (fail)
  change Hid (Boxes3 w M note inst vc va e p _ _ _ (((w.alloc (.cells (memV M) 28)).alloc (.cells #[.int .i64 note, .int .i64 inst, .int .i64 vc, .int .i64 va, .int .i64 e, .int .i64 p] 23)).alloc (.cells #[.int .i64 0, .int .i64 0, .int .i64 0, .int .i64 0, .int .i64 0, .int .i64 0, .int .i64 0, .int .i64 0, .int .i64 0, .int .i64 0, .int .i64 0, .int .i64 0, .int .i64 0, .int .i64 0, .int .i64 0, .int .i64 0, .int .i64 0, .int .i64 0, .int .i64 0, .int .i64 0, .int .i64 0, .int .i64 0, .int .i64 0, .int .i64 0, .int .i64 0, .int .i64 0] 28))) at HX
  generalize ((w.alloc (.cells (memV M) 28)).alloc (.cells #[.int .i64 note, .int .i64 inst, .int .i64 vc, .int .i64 va, .int .i64 e, .int .i64 p] 23)).alloc (.cells #[.int .i64 0, .int .i64 0, .int .i64 0, .int .i64 0, .int .i64 0, .int .i64 0, .int .i64 0, .int .i64 0, .int .i64 0, .int .i64 0, .int .i64 0, .int .i64 0, .int .i64 0, .int .i64 0, .int .i64 0, .int .i64 0, .int .i64 0, .int .i64 0, .int .i64 0, .int .i64 0, .int .i64 0, .int .i64 0, .int .i64 0, .int .i64 0, .int .i64 0, .int .i64 0] 28) = w4 at *
  generalize w.heap.size + 1 + 1 = n3 at *
  generalize w.heap.size + 1 = n2 at *
  obtain ⟨n1, hn1⟩ : ∃ n1, n1 = w.heap.size := ⟨_, rfl⟩
  have HX0 : Hid (Boxes3 w M note inst vc va e p n1 n2 n3 w4) := by rw [hn1]; exact HX
  rw [← hn1]
  clear HX hn1
  go_upto_region 2 with (fail)
  have HX1 := hid (HX0.out.next (below1 w4 (.cells #[.int .i64 d, .map none] 53)))
  have q0 : (w4.alloc (.cells #[.int .i64 d, .map none] 53)).cell? ⟨w4.heap.size, 0, none⟩ = some (.int .i64 d) := by simp
  have q1 : (w4.alloc (.cells #[.int .i64 d, .map none] 53)).cell? ⟨w4.heap.size, 1, none⟩ = some (.map none) := by simp
  clear HX0
  generalize w4.alloc (.cells #[.int .i64 d, .map none] 53) = w5 at *
  generalize w4.heap.size = n0 at *
  have HR1 := hid (row_M HX1.out.t1)
  obtain ⟨q2, q3, q4, q5, q6, q7⟩ := HX1.out.cells
  go_wp2_with (first
    | (refine wpList_load_at rfl 28 _ rfl n1 0 rfl (memV M) _ HR1.out Tryz.underlying28 rfl (by rw [memV_size HM.out]; exact size28) ?_)
    | (go_at_call 29; refine (presT_any M HM.out d note inst vc va e p _).mono ?_; rintro x w6 ⟨v, rfl, ho, hb⟩; have HX2 := hid (HX1.out.next hb); have HO := hid ho; have HL := hid (resM_len d note inst vc va e p HM.out); clear ho hb q0 q1 q2 q3 q4 q5 q6 q7)
    | (refine wpList_store_block rfl 28 _ _ rfl n3 (memV (resM d note inst vc va e p M)) rfl rfl 28 (memV zeroM) HX2.out.t3 (by rw [memV_size HL.out]; exact size28) (by rw [memV_size HL.out]; rfl) (memV_ones _) ?_))
  refine bodyPost_ret (results_tct rfl _ _ n3 28 (memV (resM d note inst vc va e p M)) (0, 0) _ rfl (setRow_heap _ _ _ _ _ _ HX2.out.t3) Tryz.underlying28 rfl (by rw [memV_size HL.out]; exact size28)) rfl ?_
  have hs := HX1.out.below.size
  have h3 := (Array.getElem?_eq_some_iff.1 HX1.out.t3).1
  exact ⟨v, rfl, World.ownsRow.base (HO.out.kept (grown_row w6 n3 _) (Or.inr fun e => by have := (HO.out.lt _ e).1; omega)) hs, Below.row HX2.out.below HX2.out.le.1 _⟩
end Go.Proofs.YtkpielgdfahanaaGreat
