/- Same: two lists of operations are compared. -/
import Derived.Test.YtkpielgdfahanaaGreatEqV
import Derived.Deep.QuietTactic
import Derived.BigQuiet
namespace Go.Proofs.YtkpielgdfahanaaGreat
open Go.RowKit
abbrev Opn := Int × Int × Int
def opN (O : List Opn) (k : Nat) : Opn := O.getD k (0, 0, 0)
/-- A slice reads as a list of operations. -/
def OpsAt (w : World) (v : Value) (O : List Opn) : Prop :=
  ∃ A cap, v = .slice A O.length cap ∧ ∀ k, k < O.length → ∃ b off, A = some ⟨b, off, none⟩ ∧ w.cell? ⟨b, off + k * 3, none⟩ = some (.int .i64 (opN O k).1) ∧ w.cell? ⟨b, off + k * 3 + 1, none⟩ = some (.int .i64 (opN O k).2.1) ∧ w.cell? ⟨b, off + k * 3 + 2, none⟩ = some (.int .i64 (opN O k).2.2)
theorem opCells_at : ∀ (O : List Opn) (k : Nat), k < O.length → (opCells O)[k * 3]? = some (.int .i64 (opN O k).1) ∧ (opCells O)[k * 3 + 1]? = some (.int .i64 (opN O k).2.1) ∧ (opCells O)[k * 3 + 2]? = some (.int .i64 (opN O k).2.2)
  | [], k, h => by simp at h
  | (a, b, c) :: r, 0, _ => ⟨rfl, rfl, rfl⟩
  | (a, b, c) :: r, k + 1, h => by
    have ih := opCells_at r k (by simpa using h)
    have e : ∀ j, (opCells ((a, b, c) :: r))[j + 3]? = (opCells r)[j]? := fun j => rfl
    have e1 : (k + 1) * 3 = k * 3 + 3 := by omega
    rw [e1]
    exact ⟨(e _).trans ih.1, (e (k * 3 + 1)).trans ih.2.1, (e (k * 3 + 2)).trans ih.2.2⟩
theorem Addr.add_zero_at (g j : Nat) : (⟨g, 0, none⟩ : Addr).add j = ⟨g, 0 + j, none⟩ := by unfold Addr.add; split <;> simp_all
theorem OpsAt.own {w : World} {base : Nat} {v : Value} {O : List Opn} (h : w.ownsRow base 50 3 v O.length (opCells O)) : OpsAt w v O := by
  obtain ⟨_, h2⟩ := id h
  rcases h2 with ⟨rfl, h0⟩ | ⟨g, cap, cur, rfl, _, _, _⟩
  · exact ⟨none, 0, by rw [h0], fun k hk => by omega⟩
  · refine ⟨some ⟨g, 0, none⟩, cap, rfl, fun k hk => ⟨g, 0, rfl, ?_, ?_, ?_⟩⟩
    · have := h.cells rfl (k * 3) _ (opCells_at O k hk).1
      rwa [Addr.add_zero_at] at this
    · have := h.cells rfl (k * 3 + 1) _ (opCells_at O k hk).2.1
      rwa [Addr.add_zero_at] at this
    · have := h.cells rfl (k * 3 + 2) _ (opCells_at O k hk).2.2
      rwa [Addr.add_zero_at] at this
theorem BelowW.step {w w1 w2 : World} (h : BelowW w w1) (k : Below w1.heap.size w1 w2) : BelowW w w2 := Below.step h k
theorem OpsAt.keep {w w' : World} {v : Value} {O : List Opn} (h : OpsAt w v O) (hb : Below w.heap.size w w') : OpsAt w' v O := by
  obtain ⟨A, cap, rfl, r⟩ := h
  refine ⟨A, cap, rfl, fun k hk => ?_⟩
  obtain ⟨b, off, e, c1, c2, c3⟩ := r k hk
  exact ⟨b, off, e, keep_cell hb c1, keep_cell hb c2, keep_cell hb c3⟩
theorem opn_ext {A B : List Opn} (hl : A.length = B.length) (h : ∀ k, k < A.length → opN A k = opN B k) : A = B := by
  apply List.ext_getElem? 
  intro i
  rcases Nat.lt_or_ge i A.length with hi | hi
  · have := h i hi
    unfold opN at this
    rw [List.getD_eq_getElem?_getD, List.getD_eq_getElem?_getD, List.getElem?_eq_getElem hi, List.getElem?_eq_getElem (hl ▸ hi)] at this
    rw [List.getElem?_eq_getElem hi, List.getElem?_eq_getElem (hl ▸ hi)]
    exact congrArg some this
  · rw [List.getElem?_eq_none hi, List.getElem?_eq_none (hl ▸ hi)]
theorem drewN2 (w : World) (m n : Nat) : (w.drewN m).drewN n = w.drewN (m + n) := by unfold World.drewN; simp [Nat.add_assoc]
theorem run_ne_op (p q : Opn) (w : World) : (binOp .neq 50 (.agg #[.int .i64 p.1, .int .i64 p.2.1, .int .i64 p.2.2]) (.agg #[.int .i64 q.1, .int .i64 q.2.1, .int .i64 q.2.2])).run Tryz.prog w = .ok (.bool (!decide (p = q))) w := neq50 ..
set_option maxHeartbeats 4000000 in
set_option maxRecDepth 10000 in
theorem same_any (v1 v2 : Value) (O1 O2 : List Opn) (w : World) (h1 : OpsAt w v1 O1) (h2 : OpsAt w v2 O2) (hl1 : O1.length ≤ 1000) :
    Calls Tryz.prog 12 #[v1, v2] w fun e w' => e = .returned (.bool (decide (O1 = O2))) ∧ ∃ m, w' = w.drewN m := by
  obtain ⟨A1, cap1, rfl, r1⟩ := h1
  obtain ⟨A2, cap2, rfl, r2⟩ := h2
  have R1 := hid r1
  have R2 := hid r2
  clear r1 r2
  by_cases hl : O1.length = O2.length
  · have HL := hid hl
    have HE := hid (fun h => opn_ext (A := O1) (B := O2) hl h)
    obtain ⟨n1, e1⟩ : ∃ n, n = O1.length := ⟨_, rfl⟩
    rw [← hl, ← e1]
    have E1 := hid e1
    rw [← e1] at hl1
    clear hl e1
    go_enter Tryz.func12, Tryz.ntmps12
    go_wp2
    go_loopw [13] (fun i wr => ∃ k m : Nat, k ≤ n1 ∧ i = .int .i64 k ∧ Hid (wr = w.drewN m) ∧ Hid (∀ j, j < k → opN O1 j = opN O2 j)) (fun i _ => n1 - (intOf i).toNat)
    case atStart => exact ⟨0, 0, Nat.zero_le _, rfl, hid rfl, hid (fun j hj => by omega)⟩
    case round =>
      obtain ⟨k, m, hk, rfl, HW, HJ⟩ := hrel
      by_cases hlt : k < n1
      · have hlt1 : (k : Int) < (n1 : Int) := by omega
        have hk0 : (0 : Int) ≤ (k : Int) := by omega
        obtain ⟨b, off, ea, c1, c2, c3⟩ := R1.out k (by rw [← E1.out]; exact hlt)
        obtain ⟨b', off', ea', d1, d2, d3⟩ := R2.out k (by rw [← HL.out, ← E1.out]; exact hlt)
        subst ea
        subst ea'
        have c1 : wr.cell? ⟨b, off + k * 3, none⟩ = some (.int .i64 (opN O1 k).1) := by rw [HW.out]; exact c1
        have c2 : wr.cell? ⟨b, off + k * 3 + 1, none⟩ = some (.int .i64 (opN O1 k).2.1) := by rw [HW.out]; exact c2
        have c3 : wr.cell? ⟨b, off + k * 3 + 2, none⟩ = some (.int .i64 (opN O1 k).2.2) := by rw [HW.out]; exact c3
        have d1 : wr.cell? ⟨b', off' + k * 3, none⟩ = some (.int .i64 (opN O2 k).1) := by rw [HW.out]; exact d1
        have d2 : wr.cell? ⟨b', off' + k * 3 + 1, none⟩ = some (.int .i64 (opN O2 k).2.1) := by rw [HW.out]; exact d2
        have d3 : wr.cell? ⟨b', off' + k * 3 + 2, none⟩ = some (.int .i64 (opN O2 k).2.2) := by rw [HW.out]; exact d3
        have hne := run_ne_op (opN O1 k) (opN O2 k)
        by_cases he : opN O1 k = opN O2 k
        · have HJ2 : Hid (∀ j, j < k + 1 → opN O1 j = opN O2 j) := hid (fun j hj => by
            rcases Nat.lt_or_ge j k with h | h
            · exact HJ.out j h
            · have : j = k := by omega
              subst this; exact he)
          rw [decide_eq_true he] at hne
          clear he HJ HE
          generalize opN O1 k = x at *
          generalize opN O2 k = y at *
          go_wp2
          go_quiet (fail)
          go_wp2
          go_roundw
          case rel => exact ⟨k + 1, m + nq, by omega, by go_num, hid (by rw [HW.out, drewN2]), HJ2⟩
          case measure => simp [intOf]; omega
        · have HF : Hid (decide (O1 = O2) = false) := hid (decide_eq_false fun e => he (by rw [e]))
          rw [decide_eq_false he] at hne
          clear he HJ HE
          generalize opN O1 k = x at *
          generalize opN O2 k = y at *
          go_wp2
          go_quiet (fail)
          go_wp2
          go_ret
          exact ⟨by rw [HF.out]; rfl, m + nq, by rw [HW.out, drewN2]⟩
      · have hkn : k = n1 := by omega
        have HF : Hid (decide (O1 = O2) = true) := hid (decide_eq_true (HE.out fun j hj => HJ.out j (by rw [hkn, E1.out]; exact hj)))
        clear HE HJ
        go_wp2
        go_ret
        exact ⟨by rw [HF.out]; rfl, m, HW.out⟩
  · have HF : Hid (decide (O1 = O2) = false) := hid (decide_eq_false fun e => hl (by rw [e]))
    have hln : ((O1.length : Nat) != O2.length) = true := by simpa using hl
    have hlz : ((O1.length : Int) != (O2.length : Int)) = true := bne_iff_ne.2 (by omega)
    clear hl
    go_enter Tryz.func12, Tryz.ntmps12
    go_wp2
    go_ret
    exact ⟨by rw [HF.out]; rfl, 0, rfl⟩
end Go.Proofs.YtkpielgdfahanaaGreat
