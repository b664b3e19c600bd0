/- dialect.effects and Table.effect for scream and fast: the function value that an effect's letter stands for. -/
import Derived.Test.YtkpielgdfahanaaGreatFast
namespace Go.Proofs.YtkpielgdfahanaaGreat
open Go.RowKit Go.Maps

/-- The effects of a dialect by their letters. -/
def dialE (d : Int) : Int → Eff := if d = 2 then screamE else if d = 3 then fastE else fun _ => .nil
theorem BuiltN.more {B C : Nat} {k : TypeId} {q : IntKind} {G : Int → Eff} {w : World} {x : Ending} {w' : World} (h : BuiltN B k q G w x w') (hB : B ≤ C) : BuiltN C k q G w x w' := by
  obtain ⟨m, N, p, h1, h2, h3, h4, h5, h6, h7⟩ := h
  exact ⟨m, N, p, h1, h2, h3, h4, h5, Nat.le_trans h6 hB, h7⟩
theorem effects2 (w : World) : Calls Tryz.prog 76 #[.int .i64 2] w (BuiltN 2000 5 .u8 (dialE 2) w) := by
  have hix : ∀ w : World, (Instr.index 83 (.agg ((Tryz.prog.built 83 [(1, .func (.func 78) #[] #[]), (2, .func (.func 79) #[] #[]), (3, .func (.func 80) #[] #[]), (4, .func (.func 81) #[] #[]), (5, .func (.func 82) #[] #[]), (6, .func (.func 83) #[] #[])]).getD #[])) (.int .i64 2)).run Tryz.prog w = .ok (.func (.func 79) #[] #[]) w := fun _ => by kernel_rfl
  go_enter Tryz.func76, Tryz.ntmps76
  go_wp2_with (first | (refine wpList_build rfl 83 _ rfl (by kernel_rfl) ?_) | fail)
  go_at_call 79
  refine (scream_any _).mono ?_
  rintro e w1 ⟨m, N, p, rfl, h⟩
  have H := hid h
  clear h
  go_wp2
  go_ret
  obtain ⟨h2, h3, h4, h5, h6, h7⟩ := H
  exact ⟨m, N, p, rfl, h2, h3, h4, h5, by omega, h7⟩
theorem effects3 (w : World) : Calls Tryz.prog 76 #[.int .i64 3] w (BuiltN 2000 5 .u8 (dialE 3) w) := by
  have hix : ∀ w : World, (Instr.index 83 (.agg ((Tryz.prog.built 83 [(1, .func (.func 78) #[] #[]), (2, .func (.func 79) #[] #[]), (3, .func (.func 80) #[] #[]), (4, .func (.func 81) #[] #[]), (5, .func (.func 82) #[] #[]), (6, .func (.func 83) #[] #[])]).getD #[])) (.int .i64 3)).run Tryz.prog w = .ok (.func (.func 80) #[] #[]) w := fun _ => by kernel_rfl
  go_enter Tryz.func76, Tryz.ntmps76
  go_wp2_with (first | (refine wpList_build rfl 83 _ rfl (by kernel_rfl) ?_) | fail)
  go_at_call 80
  refine (fast_any _).mono ?_
  rintro e w1 ⟨m, N, p, rfl, h⟩
  have H := hid h
  clear h
  go_wp2
  go_ret
  exact ⟨m, N, p, rfl, H⟩

theorem letter14 (w : World) : Calls Tryz.prog 23 #[.int .i64 14] w (fun e w' => e = .returned (.int .u8 68) ∧ w = w') := by
  go_enter Tryz.func23, Tryz.ntmps23
  go_wp2
  go_ret
  exact ⟨rfl, rfl⟩
theorem letter2 (w : World) : Calls Tryz.prog 23 #[.int .i64 2] w (fun e w' => e = .returned (.int .u8 49) ∧ w = w') := by
  go_enter Tryz.func23, Tryz.ntmps23
  go_wp2
  go_ret
  exact ⟨rfl, rfl⟩
/-- What a look-up of an effect hands back. -/
def Found (e : Eff) (w : World) (x : Ending) (w' : World) : Prop := ∃ f cap p, x = .returned (.func f #[] cap) ∧ Lies p e (.func f #[] cap) w' ∧ (∀ c, p c → w.heap.size ≤ c) ∧ Below w.heap.size w w'
theorem effect_scream (w : World) : Calls Tryz.prog 52 #[.agg #[.int .i64 2, .map none], .int .i64 14] w (Found (.wholly 1 (.fn 105)) w) := by
  have hmn : ∀ w : World, (binOp .neq 51 (.map none) (.map none)).run Tryz.prog w = .ok (.bool false) w := fun _ => by rfl
  go_enter Tryz.func52, Tryz.ntmps52
  go_wp2_with (first
    | (go_at_call 76; refine (effects2 _).mono ?_; rintro e w1 ⟨m, N, p, rfl, h2, h3, h4, h5, h6, h7, h8⟩; have HT := hid h7; have HB := hid h8; have HS := hid h3; clear h2 h3 h4 h5 h6 h7 h8)
    | (go_at_call 23; refine (letter14 _).mono ?_; rintro e w2 ⟨rfl, rfl⟩)
    | (at_lookup; refine wpList_lookup_tab _ rfl _ _ 51 rfl 5 key5 Tryz.underlying51 rfl HT _ (keyOf_int_mk Tryz.underlying5 (by decide)) (by simp [dialE, screamE, upd]) ?_; intro fn cap HV)
    | fail)
  go_ret
  refine ⟨fn, cap, p, rfl, ?_, fun c hc => ?_, ?_⟩
  · simpa [dialE, screamE, upd] using HV.out
  · have := HS.out c hc
    simp at this
    omega
  · exact Below.step (below1 _ _) HB.out
theorem effect_fast (w : World) : Calls Tryz.prog 52 #[.agg #[.int .i64 3, .map none], .int .i64 2] w (Found (.wholly 5 (.param 2)) w) := by
  have hmn : ∀ w : World, (binOp .neq 51 (.map none) (.map none)).run Tryz.prog w = .ok (.bool false) w := fun _ => by rfl
  go_enter Tryz.func52, Tryz.ntmps52
  go_wp2_with (first
    | (go_at_call 76; refine (effects3 _).mono ?_; rintro e w1 ⟨m, N, p, rfl, h2, h3, h4, h5, h6, h7, h8⟩; have HT := hid h7; have HB := hid h8; have HS := hid h3; clear h2 h3 h4 h5 h6 h7 h8)
    | (go_at_call 23; refine (letter2 _).mono ?_; rintro e w2 ⟨rfl, rfl⟩)
    | (at_lookup; refine wpList_lookup_tab _ rfl _ _ 51 rfl 5 key5 Tryz.underlying51 rfl HT _ (keyOf_int_mk Tryz.underlying5 (by decide)) (by simp [dialE, fastE, fast1E, turn1, fastK, upd]) ?_; intro fn cap HV)
    | fail)
  go_ret
  refine ⟨fn, cap, p, rfl, ?_, fun c hc => ?_, ?_⟩
  · simpa [dialE, fastE, fast1E, turn1, fastK, fourE, upd] using HV.out
  · have := HS.out c hc
    simp at this
    omega
  · exact Below.step (below1 _ _) HB.out
end Go.Proofs.YtkpielgdfahanaaGreat
