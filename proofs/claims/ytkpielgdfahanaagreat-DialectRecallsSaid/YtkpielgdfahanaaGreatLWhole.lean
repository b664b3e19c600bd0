/- The law's own function whole: which effects take their parameter whole. -/
import Derived.Test.YtkpielgdfahanaaGreatRecP
namespace Go.Proofs.YtkpielgdfahanaaGreat
open Go.RowKit
def wholeC (d : Int) : List UInt8 := (wholeL d).map Nat.toUInt8
def wholeS (d : Int) : ByteArray := ⟨(wholeC d).toArray⟩
theorem run_w1 (w : World) : (Instr.index 61 (.agg ((Tryz.prog.built 61 [(0, .string ⟨#[]⟩), (1, .string ⟨#[51, 57]⟩), (2, .string ⟨#[68, 69, 70, 71, 73, 74, 75, 76, 79, 81, 82, 83]⟩), (3, .string ⟨#[49, 50, 51, 53, 54, 57, 65, 72, 80, 84]⟩), (4, .string ⟨#[68, 69, 70, 71, 73, 74, 75, 76, 78, 79, 80, 81, 83, 84, 87]⟩), (5, .string ⟨#[]⟩), (6, .string ⟨#[49, 50, 51, 65]⟩)]).getD #[])) (.int .i64 1)).run Tryz.prog w = .ok (.string (wholeS 1)) w := by kernel_rfl
theorem run_w2 (w : World) : (Instr.index 61 (.agg ((Tryz.prog.built 61 [(0, .string ⟨#[]⟩), (1, .string ⟨#[51, 57]⟩), (2, .string ⟨#[68, 69, 70, 71, 73, 74, 75, 76, 79, 81, 82, 83]⟩), (3, .string ⟨#[49, 50, 51, 53, 54, 57, 65, 72, 80, 84]⟩), (4, .string ⟨#[68, 69, 70, 71, 73, 74, 75, 76, 78, 79, 80, 81, 83, 84, 87]⟩), (5, .string ⟨#[]⟩), (6, .string ⟨#[49, 50, 51, 65]⟩)]).getD #[])) (.int .i64 2)).run Tryz.prog w = .ok (.string (wholeS 2)) w := by kernel_rfl
theorem run_w3 (w : World) : (Instr.index 61 (.agg ((Tryz.prog.built 61 [(0, .string ⟨#[]⟩), (1, .string ⟨#[51, 57]⟩), (2, .string ⟨#[68, 69, 70, 71, 73, 74, 75, 76, 79, 81, 82, 83]⟩), (3, .string ⟨#[49, 50, 51, 53, 54, 57, 65, 72, 80, 84]⟩), (4, .string ⟨#[68, 69, 70, 71, 73, 74, 75, 76, 78, 79, 80, 81, 83, 84, 87]⟩), (5, .string ⟨#[]⟩), (6, .string ⟨#[49, 50, 51, 65]⟩)]).getD #[])) (.int .i64 3)).run Tryz.prog w = .ok (.string (wholeS 3)) w := by kernel_rfl
theorem run_w4 (w : World) : (Instr.index 61 (.agg ((Tryz.prog.built 61 [(0, .string ⟨#[]⟩), (1, .string ⟨#[51, 57]⟩), (2, .string ⟨#[68, 69, 70, 71, 73, 74, 75, 76, 79, 81, 82, 83]⟩), (3, .string ⟨#[49, 50, 51, 53, 54, 57, 65, 72, 80, 84]⟩), (4, .string ⟨#[68, 69, 70, 71, 73, 74, 75, 76, 78, 79, 80, 81, 83, 84, 87]⟩), (5, .string ⟨#[]⟩), (6, .string ⟨#[49, 50, 51, 65]⟩)]).getD #[])) (.int .i64 4)).run Tryz.prog w = .ok (.string (wholeS 4)) w := by kernel_rfl
theorem run_w5 (w : World) : (Instr.index 61 (.agg ((Tryz.prog.built 61 [(0, .string ⟨#[]⟩), (1, .string ⟨#[51, 57]⟩), (2, .string ⟨#[68, 69, 70, 71, 73, 74, 75, 76, 79, 81, 82, 83]⟩), (3, .string ⟨#[49, 50, 51, 53, 54, 57, 65, 72, 80, 84]⟩), (4, .string ⟨#[68, 69, 70, 71, 73, 74, 75, 76, 78, 79, 80, 81, 83, 84, 87]⟩), (5, .string ⟨#[]⟩), (6, .string ⟨#[49, 50, 51, 65]⟩)]).getD #[])) (.int .i64 5)).run Tryz.prog w = .ok (.string (wholeS 5)) w := by kernel_rfl
theorem run_w6 (w : World) : (Instr.index 61 (.agg ((Tryz.prog.built 61 [(0, .string ⟨#[]⟩), (1, .string ⟨#[51, 57]⟩), (2, .string ⟨#[68, 69, 70, 71, 73, 74, 75, 76, 79, 81, 82, 83]⟩), (3, .string ⟨#[49, 50, 51, 53, 54, 57, 65, 72, 80, 84]⟩), (4, .string ⟨#[68, 69, 70, 71, 73, 74, 75, 76, 78, 79, 80, 81, 83, 84, 87]⟩), (5, .string ⟨#[]⟩), (6, .string ⟨#[49, 50, 51, 65]⟩)]).getD #[])) (.int .i64 6)).run Tryz.prog w = .ok (.string (wholeS 6)) w := by kernel_rfl
theorem run_w (d : Int) (h1 : 1 ≤ d) (h2 : d ≤ 6) (w : World) : (Instr.index 61 (.agg ((Tryz.prog.built 61 [(0, .string ⟨#[]⟩), (1, .string ⟨#[51, 57]⟩), (2, .string ⟨#[68, 69, 70, 71, 73, 74, 75, 76, 79, 81, 82, 83]⟩), (3, .string ⟨#[49, 50, 51, 53, 54, 57, 65, 72, 80, 84]⟩), (4, .string ⟨#[68, 69, 70, 71, 73, 74, 75, 76, 78, 79, 80, 81, 83, 84, 87]⟩), (5, .string ⟨#[]⟩), (6, .string ⟨#[49, 50, 51, 65]⟩)]).getD #[])) (.int .i64 d)).run Tryz.prog w = .ok (.string (wholeS d)) w := by
  have h : d = 1 ∨ d = 2 ∨ d = 3 ∨ d = 4 ∨ d = 5 ∨ d = 6 := by omega
  rcases h with rfl | rfl | rfl | rfl | rfl | rfl
  · exact run_w1 w
  · exact run_w2 w
  · exact run_w3 w
  · exact run_w4 w
  · exact run_w5 w
  · exact run_w6 w
/-- An effect's number stands for a letter. -/
def isL (e c : Int) : Bool := if c ≤ 57 then decide (e = c - 47) else decide (e = c - 54)
def wB (l : List UInt8) (e : Int) : Bool := l.any fun c => isL e (c.toNat : Int)
theorem wB_eq (d e : Int) (h1 : 1 ≤ d) (h2 : d ≤ 6) : wB (wholeC d) e = wholeB d e := by
  have h : d = 1 ∨ d = 2 ∨ d = 3 ∨ d = 4 ∨ d = 5 ∨ d = 6 := by omega
  rcases h with rfl | rfl | rfl | rfl | rfl | rfl <;> rfl
theorem wholeC_fine (d : Int) : ∀ c ∈ wholeC d, (48 ≤ c.toNat ∧ c.toNat ≤ 57) ∨ (65 ≤ c.toNat ∧ c.toNat ≤ 90) := by
  unfold wholeC wholeL
  repeat' split
  all_goals decide
theorem wholeC_len (d : Int) : (wholeC d).length ≤ 100 := by
  unfold wholeC wholeL
  repeat' split
  all_goals decide
theorem wB_hit {l : List UInt8} {e : Int} {k : Nat} (hk : k < l.length) (h : isL e ((l.getD k 0).toNat : Int) = true) : wB l e = true := by
  unfold wB
  rw [List.any_eq_true]
  refine ⟨l[k], List.getElem_mem hk, ?_⟩
  simpa [List.getD, List.getElem?_eq_getElem hk] using h
theorem wB_miss {l : List UInt8} {e : Int} (h : ∀ j, j < l.length → isL e ((l.getD j 0).toNat : Int) = false) : wB l e = false := by
  unfold wB
  rw [List.any_eq_false]
  intro b hb
  obtain ⟨j, hj, rfl⟩ := List.mem_iff_getElem.1 hb
  have := h j hj
  simp only [List.getD, List.getElem?_eq_getElem hj, Option.getD_some] at this
  simp [this]
set_option maxHeartbeats 4000000 in
set_option maxRecDepth 100000 in
theorem lwhole_any (d e : Int) (d1 : 1 ≤ d) (d6 : d ≤ 6) (w : World) : Calls Tryz.prog 13 #[.int .i64 d, .int .i64 e] w fun x w' => x = .returned (.bool (wholeB d e)) ∧ w = w' := by
  have HW := hid (wB_eq d e d1 d6)
  have HF := hid (wholeC_fine d)
  have HL := wholeC_len d
  have hrun := fun w => run_w d d1 d6 w
  have HIX : Hid (∀ k : Nat, k < (wholeC d).length → (Instr.index 9 (.string (wholeS d)) (.int .i64 k)).run Tryz.prog w = .ok (.int .u8 (((wholeC d).getD k 0).toNat : Int)) w) := hid (fun k hk => by
    unfold wholeS
    rw [run_index_string _ _ _ _ _ Tryz.underlying9, dif_pos ⟨by omega, by simp [ByteArray.size]; omega⟩]
    have h1 : ((⟨(wholeC d).toArray⟩ : ByteArray)[((k : Int)).toNat]'(by simp [ByteArray.size]; omega)) = (wholeC d)[k] := rfl
    rw [h1]
    simp [List.getD, List.getElem?_eq_getElem hk])
  have hsz : (wholeS d).size = (wholeC d).length := by simp [wholeS, ByteArray.size]
  rw [← HW.out]
  clear HW d1 d6
  generalize hs : wholeS d = S at *
  generalize hC : wholeC d = C at *
  clear hs hC
  go_enter Tryz.func13, Tryz.ntmps13
  go_wp2_with (first | (refine wpList_build rfl 61 _ rfl (by kernel_rfl) ?_) | fail)
  clear hrun
  go_loop [6] (fun i => ∃ k : Nat, k ≤ C.length ∧ i = .int .i64 k ∧ Hid (∀ j, j < k → isL e ((C.getD j 0).toNat : Int) = false)) (fun i => C.length - (intOf i).toNat)
  case atStart => exact ⟨0, Nat.zero_le _, rfl, hid (fun j hj => by omega)⟩
  case round =>
    obtain ⟨k, hk, rfl, HJ⟩ := hrel
    by_cases hlt : k < C.length
    · have hix := HIX.out k hlt
      have hlt1 : (k : Int) < (C.length : Int) := by omega
      have hk0 : (0 : Int) ≤ (k : Int) := by omega
      have HE : Hid (isL e ((C.getD k 0).toNat : Int) = true → wB C e = true) := hid (fun h => wB_hit hlt h)
      have HN : Hid (isL e ((C.getD k 0).toNat : Int) = false → ∀ j, j < k + 1 → isL e ((C.getD j 0).toNat : Int) = false) := hid (fun hf j hj => by
        rcases Nat.lt_or_ge j k with h | h
        · exact HJ.out j h
        · have : j = k := by omega
          subst this; exact hf)
      have HFk : (48 ≤ ((C.getD k 0).toNat : Int) ∧ ((C.getD k 0).toNat : Int) ≤ 57) ∨ (65 ≤ ((C.getD k 0).toNat : Int) ∧ ((C.getD k 0).toNat : Int) ≤ 90) := by
        have := HF.out (C.getD k 0) (by rw [List.getD_eq_getElem?_getD, List.getElem?_eq_getElem hlt]; exact List.getElem_mem hlt)
        omega
      clear HJ HIX HF
      generalize ((C.getD k 0).toNat : Int) = c at *
      rcases HFk with ⟨c0, c1⟩ | ⟨c0, c1⟩
      · have b0 : decide (c ≤ 57) = true := decide_eq_true c1
        by_cases he : e = c - 47
        · have t0 : (e == c - 48 + 1) = true := beq_true (by omega)
          have HT : Hid (wB C e = true) := hid (HE.out (by unfold isL; rw [if_pos c1]; exact decide_eq_true he))
          clear HE HN he
          go_wp2
          go_ret
          exact ⟨by rw [HT.out]; rfl, rfl⟩
        · have t0 : (e == c - 48 + 1) = false := beq_false (by omega)
          have HT := hid (HN.out (by unfold isL; rw [if_pos c1]; exact decide_eq_false he))
          have b1 : decide (57 < c) = false := decide_eq_false (by omega)
          clear HE HN he
          go_wp2
          go_round
          case rel => exact ⟨k + 1, by omega, by go_num, HT⟩
          case measure => simp [intOf]; omega
      · have b0 : decide (c ≤ 57) = false := decide_eq_false (by omega)
        have b1 : decide (57 < c) = true := decide_eq_true (by omega)
        by_cases he : e = c - 54
        · have t0 : (e == c - 65 + 11) = true := beq_true (by omega)
          have HT : Hid (wB C e = true) := hid (HE.out (by unfold isL; rw [if_neg (by omega)]; exact decide_eq_true he))
          clear HE HN he
          go_wp2
          go_ret
          exact ⟨by rw [HT.out]; rfl, rfl⟩
        · have t0 : (e == c - 65 + 11) = false := beq_false (by omega)
          have HT := hid (HN.out (by unfold isL; rw [if_neg (by omega)]; exact decide_eq_false he))
          clear HE HN he
          go_wp2
          go_round
          case rel => exact ⟨k + 1, by omega, by go_num, HT⟩
          case measure => simp [intOf]; omega
    · have hge : ¬ (k : Int) < (C.length : Int) := by omega
      have HT : Hid (wB C e = false) := hid (wB_miss (fun j hj => HJ.out j (by omega)))
      clear HJ HIX HF
      go_wp2
      go_ret
      exact ⟨by rw [HT.out]; rfl, rfl⟩
end Go.Proofs.YtkpielgdfahanaaGreat
