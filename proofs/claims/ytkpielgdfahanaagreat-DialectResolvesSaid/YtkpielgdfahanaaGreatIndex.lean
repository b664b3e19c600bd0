/- strings.IndexByte, and the letters of a dialect's effects. -/
import Derived.Test.YtkpielgdfahanaaGreatRng
import Derived.Lib.Bytealg
import Derived.Laws.StandIn
/- Small functions of the dialects: within, volCmds. -/
namespace Go.Proofs.YtkpielgdfahanaaGreat
open Go.RowKit Go.Maps

theorem within_any (x lo hi : Int) (w : World) :
    Calls Tryz.prog 35 #[.int .i64 x, .int .i64 lo, .int .i64 hi] w fun e w' => e = .returned (.bool (inr x lo hi)) ∧ w = w' := by
  by_cases h1 : lo ≤ x
  · have h1' : decide (lo ≤ x) = true := decide_eq_true h1
    by_cases h2 : x ≤ hi
    · have h2' : decide (x ≤ hi) = true := decide_eq_true h2
      have H : Hid (inr x lo hi = true) := hid (by unfold inr; rw [h1', h2']; rfl)
      clear h1 h2
      go_enter Tryz.func35, Tryz.ntmps35
      go_wp2
      go_ret
      exact ⟨ret_bool H.out.symm, rfl⟩
    · have h2' : decide (x ≤ hi) = false := decide_eq_false h2
      have H : Hid (inr x lo hi = false) := hid (by unfold inr; rw [h1', h2']; rfl)
      clear h1 h2
      go_enter Tryz.func35, Tryz.ntmps35
      go_wp2
      go_ret
      exact ⟨ret_bool H.out.symm, rfl⟩
  · have h1' : decide (lo ≤ x) = false := decide_eq_false h1
    have H : Hid (inr x lo hi = false) := hid (by unfold inr; rw [h1']; rfl)
    clear h1
    go_enter Tryz.func35, Tryz.ntmps35
    go_wp2
    go_ret
    exact ⟨ret_bool H.out.symm, rfl⟩

/-- The greatest volume command of a dialect. -/
def volC (d : Int) : Int := if d = 4 then 10 else if d = 3 then 8 else if d = 2 then 1 else 0
abbrev IntM := FnMap Tryz.prog 3 .i64 (.int .i64 0)
theorem zero3 (u : World) : (zeroValue 3).run Tryz.prog u = .ok (.int .i64 0) u := by rfl
theorem ite_val (p : Prop) [Decidable p] (x : Int) (y : Int) : (if p then Value.int .i64 x else Value.int .i64 y) = .int .i64 (if p then x else y) := by split <;> rfl
set_option maxHeartbeats 1000000 in
theorem volCmds_any (d : Int) (w : World) (hw : (Lit.int .i64 d).wf = true) :
    Calls Tryz.prog 21 #[.int .i64 d] w fun e w' => e = .returned (.int .i64 (volC d)) ∧ Below w.heap.size w w' := by
  have HW := hid hw
  have hmm := @run_makeMap Tryz.prog
  have HT : Hid (IntM w.heap.size 0 (fun _ => .int .i64 0) (w.alloc (.map #[] 0))) := hid (FnMap.made _ _ _ _ _)
  have HB : Hid (Below w.heap.size w (w.alloc (.map #[] 0))) := hid (below1 w _)
  clear hw
  go_enter Tryz.func21, Tryz.ntmps21
  go_wp2_with (first
    | ((with_reducible change wpList _ _ _ (⟨_, Op.insert _ _ _ _, _, _, _, _⟩ :: _) _ _); refine wpList_insert_fn _ rfl _ _ _ 65 rfl 3 3 key3 Tryz.underlying65 _ _ _ _ rfl HT.out (by unfold maxLen; omega) _ (.int .i64 _) _ rfl rfl (keyOf_int_mk Tryz.underlying3 (by decide)) ?_; intro w9 ht hg; replace HT := hid ht; replace HB := hid (grown_below HB.out hg (Nat.le_refl _) (Nat.le_refl _)); clear ht hg)
    | (at_lookup; refine wpList_lookup_fn _ rfl _ _ 65 rfl 3 3 key3 Tryz.underlying65 _ (zero3 _) _ _ _ rfl HT.out _ d rfl (keyOf_int_mk Tryz.underlying3 HW.out) ?_; simp only [ite_val])
    | fail)
  all_goals (go_ret; exact ⟨by simp_all [volC], HB⟩)
end Go.Proofs.YtkpielgdfahanaaGreat
namespace Go.Proofs.YtkpielgdfahanaaGreat
open Go.RowKit Go.Maps

set_option maxRecDepth 100000 in
theorem index_any (s : ByteArray) (c : Int) (w : World) :
    Calls Tryz.prog 22 #[.string s, .int .u8 c] w fun e w' => e = .returned (.int .i64 (Go.Lib.indexByte s.data.toList c.toNat.toUInt8)) ∧ w = w' := by
  have hcf : ∀ w : World, (callFunc 49 #[.string s, .int .u8 c]).run Tryz.prog w = .ok (.value (.int .i64 (Go.Lib.indexByte s.data.toList c.toNat.toUInt8))) w := fun w => by
    rw [run_callFunc_indexByte Tryz.func49 (by kernel_rfl) (by kernel_rfl) (by kernel_rfl) (by kernel_rfl), Go.Lib.run_indexByteString]; rfl
  go_enter Tryz.func22, Tryz.ntmps22
  go_wp2
  go_ret
  exact ⟨rfl, rfl⟩
/-- The letters of a dialect's effects. -/
def letS (d : Int) : ByteArray :=
  if d = 1 then ⟨#[48, 49, 50, 51, 52, 53, 54, 55, 56, 57, 65, 66, 67, 68, 69, 70]⟩ else
  if d = 2 then ⟨#[65, 66, 67, 68, 69, 70, 71, 72, 73, 74, 75, 76, 79, 81, 82, 83, 84, 85, 86, 88]⟩ else
  if d = 3 then ⟨#[48, 49, 50, 51, 52, 53, 54, 55, 56, 57, 65, 66, 67, 68, 69, 70, 71, 72, 75, 76, 80, 82, 84, 88]⟩ else
  if d = 4 then ⟨#[65, 66, 67, 68, 69, 70, 71, 72, 73, 74, 75, 76, 77, 78, 79, 80, 81, 82, 83, 84, 85, 86, 87, 88, 89, 90]⟩ else
  if d = 5 then ⟨#[48, 49, 50, 51, 52, 53]⟩ else
  if d = 6 then ⟨#[48, 49, 50, 51, 52, 65, 66, 67, 68, 69, 70, 78, 83]⟩ else
  ⟨#[]⟩
theorem run_let1 (w : World) : (Instr.index 61 (.agg ((Tryz.prog.built 61 [(1, .string ⟨#[48, 49, 50, 51, 52, 53, 54, 55, 56, 57, 65, 66, 67, 68, 69, 70]⟩), (2, .string ⟨#[65, 66, 67, 68, 69, 70, 71, 72, 73, 74, 75, 76, 79, 81, 82, 83, 84, 85, 86, 88]⟩), (3, .string ⟨#[48, 49, 50, 51, 52, 53, 54, 55, 56, 57, 65, 66, 67, 68, 69, 70, 71, 72, 75, 76, 80, 82, 84, 88]⟩), (4, .string ⟨#[65, 66, 67, 68, 69, 70, 71, 72, 73, 74, 75, 76, 77, 78, 79, 80, 81, 82, 83, 84, 85, 86, 87, 88, 89, 90]⟩), (5, .string ⟨#[48, 49, 50, 51, 52, 53]⟩), (6, .string ⟨#[48, 49, 50, 51, 52, 65, 66, 67, 68, 69, 70, 78, 83]⟩)]).getD #[])) (.int .i64 1)).run Tryz.prog w = .ok (.string (letS 1)) w := by kernel_rfl
theorem run_let2 (w : World) : (Instr.index 61 (.agg ((Tryz.prog.built 61 [(1, .string ⟨#[48, 49, 50, 51, 52, 53, 54, 55, 56, 57, 65, 66, 67, 68, 69, 70]⟩), (2, .string ⟨#[65, 66, 67, 68, 69, 70, 71, 72, 73, 74, 75, 76, 79, 81, 82, 83, 84, 85, 86, 88]⟩), (3, .string ⟨#[48, 49, 50, 51, 52, 53, 54, 55, 56, 57, 65, 66, 67, 68, 69, 70, 71, 72, 75, 76, 80, 82, 84, 88]⟩), (4, .string ⟨#[65, 66, 67, 68, 69, 70, 71, 72, 73, 74, 75, 76, 77, 78, 79, 80, 81, 82, 83, 84, 85, 86, 87, 88, 89, 90]⟩), (5, .string ⟨#[48, 49, 50, 51, 52, 53]⟩), (6, .string ⟨#[48, 49, 50, 51, 52, 65, 66, 67, 68, 69, 70, 78, 83]⟩)]).getD #[])) (.int .i64 2)).run Tryz.prog w = .ok (.string (letS 2)) w := by kernel_rfl
theorem run_let3 (w : World) : (Instr.index 61 (.agg ((Tryz.prog.built 61 [(1, .string ⟨#[48, 49, 50, 51, 52, 53, 54, 55, 56, 57, 65, 66, 67, 68, 69, 70]⟩), (2, .string ⟨#[65, 66, 67, 68, 69, 70, 71, 72, 73, 74, 75, 76, 79, 81, 82, 83, 84, 85, 86, 88]⟩), (3, .string ⟨#[48, 49, 50, 51, 52, 53, 54, 55, 56, 57, 65, 66, 67, 68, 69, 70, 71, 72, 75, 76, 80, 82, 84, 88]⟩), (4, .string ⟨#[65, 66, 67, 68, 69, 70, 71, 72, 73, 74, 75, 76, 77, 78, 79, 80, 81, 82, 83, 84, 85, 86, 87, 88, 89, 90]⟩), (5, .string ⟨#[48, 49, 50, 51, 52, 53]⟩), (6, .string ⟨#[48, 49, 50, 51, 52, 65, 66, 67, 68, 69, 70, 78, 83]⟩)]).getD #[])) (.int .i64 3)).run Tryz.prog w = .ok (.string (letS 3)) w := by kernel_rfl
theorem run_let4 (w : World) : (Instr.index 61 (.agg ((Tryz.prog.built 61 [(1, .string ⟨#[48, 49, 50, 51, 52, 53, 54, 55, 56, 57, 65, 66, 67, 68, 69, 70]⟩), (2, .string ⟨#[65, 66, 67, 68, 69, 70, 71, 72, 73, 74, 75, 76, 79, 81, 82, 83, 84, 85, 86, 88]⟩), (3, .string ⟨#[48, 49, 50, 51, 52, 53, 54, 55, 56, 57, 65, 66, 67, 68, 69, 70, 71, 72, 75, 76, 80, 82, 84, 88]⟩), (4, .string ⟨#[65, 66, 67, 68, 69, 70, 71, 72, 73, 74, 75, 76, 77, 78, 79, 80, 81, 82, 83, 84, 85, 86, 87, 88, 89, 90]⟩), (5, .string ⟨#[48, 49, 50, 51, 52, 53]⟩), (6, .string ⟨#[48, 49, 50, 51, 52, 65, 66, 67, 68, 69, 70, 78, 83]⟩)]).getD #[])) (.int .i64 4)).run Tryz.prog w = .ok (.string (letS 4)) w := by kernel_rfl
theorem run_let5 (w : World) : (Instr.index 61 (.agg ((Tryz.prog.built 61 [(1, .string ⟨#[48, 49, 50, 51, 52, 53, 54, 55, 56, 57, 65, 66, 67, 68, 69, 70]⟩), (2, .string ⟨#[65, 66, 67, 68, 69, 70, 71, 72, 73, 74, 75, 76, 79, 81, 82, 83, 84, 85, 86, 88]⟩), (3, .string ⟨#[48, 49, 50, 51, 52, 53, 54, 55, 56, 57, 65, 66, 67, 68, 69, 70, 71, 72, 75, 76, 80, 82, 84, 88]⟩), (4, .string ⟨#[65, 66, 67, 68, 69, 70, 71, 72, 73, 74, 75, 76, 77, 78, 79, 80, 81, 82, 83, 84, 85, 86, 87, 88, 89, 90]⟩), (5, .string ⟨#[48, 49, 50, 51, 52, 53]⟩), (6, .string ⟨#[48, 49, 50, 51, 52, 65, 66, 67, 68, 69, 70, 78, 83]⟩)]).getD #[])) (.int .i64 5)).run Tryz.prog w = .ok (.string (letS 5)) w := by kernel_rfl
theorem run_let6 (w : World) : (Instr.index 61 (.agg ((Tryz.prog.built 61 [(1, .string ⟨#[48, 49, 50, 51, 52, 53, 54, 55, 56, 57, 65, 66, 67, 68, 69, 70]⟩), (2, .string ⟨#[65, 66, 67, 68, 69, 70, 71, 72, 73, 74, 75, 76, 79, 81, 82, 83, 84, 85, 86, 88]⟩), (3, .string ⟨#[48, 49, 50, 51, 52, 53, 54, 55, 56, 57, 65, 66, 67, 68, 69, 70, 71, 72, 75, 76, 80, 82, 84, 88]⟩), (4, .string ⟨#[65, 66, 67, 68, 69, 70, 71, 72, 73, 74, 75, 76, 77, 78, 79, 80, 81, 82, 83, 84, 85, 86, 87, 88, 89, 90]⟩), (5, .string ⟨#[48, 49, 50, 51, 52, 53]⟩), (6, .string ⟨#[48, 49, 50, 51, 52, 65, 66, 67, 68, 69, 70, 78, 83]⟩)]).getD #[])) (.int .i64 6)).run Tryz.prog w = .ok (.string (letS 6)) w := by kernel_rfl
theorem run_let (d : Int) (h1 : 1 ≤ d) (h2 : d ≤ 6) (w : World) : (Instr.index 61 (.agg ((Tryz.prog.built 61 [(1, .string ⟨#[48, 49, 50, 51, 52, 53, 54, 55, 56, 57, 65, 66, 67, 68, 69, 70]⟩), (2, .string ⟨#[65, 66, 67, 68, 69, 70, 71, 72, 73, 74, 75, 76, 79, 81, 82, 83, 84, 85, 86, 88]⟩), (3, .string ⟨#[48, 49, 50, 51, 52, 53, 54, 55, 56, 57, 65, 66, 67, 68, 69, 70, 71, 72, 75, 76, 80, 82, 84, 88]⟩), (4, .string ⟨#[65, 66, 67, 68, 69, 70, 71, 72, 73, 74, 75, 76, 77, 78, 79, 80, 81, 82, 83, 84, 85, 86, 87, 88, 89, 90]⟩), (5, .string ⟨#[48, 49, 50, 51, 52, 53]⟩), (6, .string ⟨#[48, 49, 50, 51, 52, 65, 66, 67, 68, 69, 70, 78, 83]⟩)]).getD #[])) (.int .i64 d)).run Tryz.prog w = .ok (.string (letS d)) w := by
  have h : d = 1 ∨ d = 2 ∨ d = 3 ∨ d = 4 ∨ d = 5 ∨ d = 6 := by omega
  rcases h with rfl | rfl | rfl | rfl | rfl | rfl
  · exact run_let1 w
  · exact run_let2 w
  · exact run_let3 w
  · exact run_let4 w
  · exact run_let5 w
  · exact run_let6 w
set_option maxHeartbeats 1000000 in
theorem letters_any (d : Int) (w : World) : Calls Tryz.prog 16 #[.int .i64 d] w fun e w' => e = .returned (.string (letS d)) ∧ w = w' := by
  by_cases h : 1 ≤ d ∧ d ≤ 6
  · obtain ⟨h1, h2⟩ := h
    have hrun := fun w => run_let d h1 h2 w
    have H1 := hid h1
    have H2 := hid h2
    clear h1 h2
    go_enter Tryz.func16, Tryz.ntmps16
    go_wp2_with (first
      | (refine wpList_build rfl 61 _ rfl (by kernel_rfl) ?_)
      | (go_at_call 18; refine (is_yes d _ H1.out H2.out).mono ?_; rintro e w1 ⟨rfl, rfl⟩)
      | fail)
    go_ret
    exact ⟨rfl, rfl⟩
  · have H := hid h
    have he : letS d = ⟨#[]⟩ := by unfold letS; rw [if_neg (by omega), if_neg (by omega), if_neg (by omega), if_neg (by omega), if_neg (by omega), if_neg (by omega)]
    rw [he]
    clear h he
    go_enter Tryz.func16, Tryz.ntmps16
    go_wp2_with (first
      | (go_at_call 18; refine (is_no d _ H.out).mono ?_; rintro e w1 ⟨rfl, rfl⟩)
      | fail)
    go_ret
    exact ⟨rfl, rfl⟩
end Go.Proofs.YtkpielgdfahanaaGreat
