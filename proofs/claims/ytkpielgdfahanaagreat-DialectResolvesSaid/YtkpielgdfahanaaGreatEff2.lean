/- dialect.effects and Table.effect, for every dialect: the function value that an effect's letter stands for. -/
import Derived.Test.YtkpielgdfahanaaGreatChp
import Derived.Test.YtkpielgdfahanaaGreatLetter
import Derived.Test.YtkpielgdfahanaaGreatEffects
import Derived.Test.YtkpielgdfahanaaGreatSt
namespace Go.Proofs.YtkpielgdfahanaaGreat
open Go.RowKit Go.Maps
/-- The effects of a dialect by their letters. -/
def dialG (d : Int) : Int → Eff := if d = 1 then fourE else if d = 2 then screamE else if d = 3 then fastE else if d = 4 then impulseE else if d = 5 then composeE else chipE
theorem geff1 (w : World) : Calls Tryz.prog 76 #[.int .i64 1] w (BuiltN 3000 5 .u8 (dialG 1) w) := by
  have hix : ∀ w : World, (Instr.index 83 (.agg ((Tryz.prog.built 83 [(1, .func (.func 78) #[] #[]), (2, .func (.func 79) #[] #[]), (3, .func (.func 80) #[] #[]), (4, .func (.func 81) #[] #[]), (5, .func (.func 82) #[] #[]), (6, .func (.func 83) #[] #[])]).getD #[])) (.int .i64 1)).run Tryz.prog w = .ok (.func (.func 78) #[] #[]) w := fun _ => by kernel_rfl
  go_enter Tryz.func76, Tryz.ntmps76
  go_wp2_with (first | (refine wpList_build rfl 83 _ rfl (by kernel_rfl) ?_) | fail)
  go_at_call 78
  refine (four_any _).mono ?_
  rintro e w1 ⟨m, N, p, rfl, h⟩
  have H := hid h
  clear h
  go_wp2
  go_ret
  obtain ⟨h2, h3, h4, h5, h6, h7⟩ := H
  exact ⟨m, N, p, rfl, h2, h3, h4, h5, by omega, h7⟩
theorem geff2 (w : World) : Calls Tryz.prog 76 #[.int .i64 2] w (BuiltN 3000 5 .u8 (dialG 2) w) := by
  have hix : ∀ w : World, (Instr.index 83 (.agg ((Tryz.prog.built 83 [(1, .func (.func 78) #[] #[]), (2, .func (.func 79) #[] #[]), (3, .func (.func 80) #[] #[]), (4, .func (.func 81) #[] #[]), (5, .func (.func 82) #[] #[]), (6, .func (.func 83) #[] #[])]).getD #[])) (.int .i64 2)).run Tryz.prog w = .ok (.func (.func 79) #[] #[]) w := fun _ => by kernel_rfl
  go_enter Tryz.func76, Tryz.ntmps76
  go_wp2_with (first | (refine wpList_build rfl 83 _ rfl (by kernel_rfl) ?_) | fail)
  go_at_call 79
  refine (scream_any _).mono ?_
  rintro e w1 ⟨m, N, p, rfl, h⟩
  have H := hid h
  clear h
  go_wp2
  go_ret
  obtain ⟨h2, h3, h4, h5, h6, h7⟩ := H
  exact ⟨m, N, p, rfl, h2, h3, h4, h5, by omega, h7⟩
theorem geff3 (w : World) : Calls Tryz.prog 76 #[.int .i64 3] w (BuiltN 3000 5 .u8 (dialG 3) w) := by
  have hix : ∀ w : World, (Instr.index 83 (.agg ((Tryz.prog.built 83 [(1, .func (.func 78) #[] #[]), (2, .func (.func 79) #[] #[]), (3, .func (.func 80) #[] #[]), (4, .func (.func 81) #[] #[]), (5, .func (.func 82) #[] #[]), (6, .func (.func 83) #[] #[])]).getD #[])) (.int .i64 3)).run Tryz.prog w = .ok (.func (.func 80) #[] #[]) w := fun _ => by kernel_rfl
  go_enter Tryz.func76, Tryz.ntmps76
  go_wp2_with (first | (refine wpList_build rfl 83 _ rfl (by kernel_rfl) ?_) | fail)
  go_at_call 80
  refine (fast_any _).mono ?_
  rintro e w1 ⟨m, N, p, rfl, h⟩
  have H := hid h
  clear h
  go_wp2
  go_ret
  obtain ⟨h2, h3, h4, h5, h6, h7⟩ := H
  exact ⟨m, N, p, rfl, h2, h3, h4, h5, by omega, h7⟩
theorem geff4 (w : World) : Calls Tryz.prog 76 #[.int .i64 4] w (BuiltN 3000 5 .u8 (dialG 4) w) := by
  have hix : ∀ w : World, (Instr.index 83 (.agg ((Tryz.prog.built 83 [(1, .func (.func 78) #[] #[]), (2, .func (.func 79) #[] #[]), (3, .func (.func 80) #[] #[]), (4, .func (.func 81) #[] #[]), (5, .func (.func 82) #[] #[]), (6, .func (.func 83) #[] #[])]).getD #[])) (.int .i64 4)).run Tryz.prog w = .ok (.func (.func 81) #[] #[]) w := fun _ => by kernel_rfl
  go_enter Tryz.func76, Tryz.ntmps76
  go_wp2_with (first | (refine wpList_build rfl 83 _ rfl (by kernel_rfl) ?_) | fail)
  go_at_call 81
  refine (impulse_any _).mono ?_
  rintro e w1 ⟨m, N, p, rfl, h⟩
  have H := hid h
  clear h
  go_wp2
  go_ret
  obtain ⟨h2, h3, h4, h5, h6, h7⟩ := H
  exact ⟨m, N, p, rfl, h2, h3, h4, h5, by omega, h7⟩
theorem geff5 (w : World) : Calls Tryz.prog 76 #[.int .i64 5] w (BuiltN 3000 5 .u8 (dialG 5) w) := by
  have hix : ∀ w : World, (Instr.index 83 (.agg ((Tryz.prog.built 83 [(1, .func (.func 78) #[] #[]), (2, .func (.func 79) #[] #[]), (3, .func (.func 80) #[] #[]), (4, .func (.func 81) #[] #[]), (5, .func (.func 82) #[] #[]), (6, .func (.func 83) #[] #[])]).getD #[])) (.int .i64 5)).run Tryz.prog w = .ok (.func (.func 82) #[] #[]) w := fun _ => by kernel_rfl
  go_enter Tryz.func76, Tryz.ntmps76
  go_wp2_with (first | (refine wpList_build rfl 83 _ rfl (by kernel_rfl) ?_) | fail)
  go_at_call 82
  refine (compose_any _).mono ?_
  rintro e w1 ⟨m, N, p, rfl, h⟩
  have H := hid h
  clear h
  go_wp2
  go_ret
  obtain ⟨h2, h3, h4, h5, h6, h7⟩ := H
  exact ⟨m, N, p, rfl, h2, h3, h4, h5, by omega, h7⟩
theorem geff6 (w : World) : Calls Tryz.prog 76 #[.int .i64 6] w (BuiltN 3000 5 .u8 (dialG 6) w) := by
  have hix : ∀ w : World, (Instr.index 83 (.agg ((Tryz.prog.built 83 [(1, .func (.func 78) #[] #[]), (2, .func (.func 79) #[] #[]), (3, .func (.func 80) #[] #[]), (4, .func (.func 81) #[] #[]), (5, .func (.func 82) #[] #[]), (6, .func (.func 83) #[] #[])]).getD #[])) (.int .i64 6)).run Tryz.prog w = .ok (.func (.func 83) #[] #[]) w := fun _ => by kernel_rfl
  go_enter Tryz.func76, Tryz.ntmps76
  go_wp2_with (first | (refine wpList_build rfl 83 _ rfl (by kernel_rfl) ?_) | fail)
  go_at_call 83
  refine (chip_any _).mono ?_
  rintro e w1 ⟨m, N, p, rfl, h⟩
  have H := hid h
  clear h
  go_wp2
  go_ret
  obtain ⟨h2, h3, h4, h5, h6, h7⟩ := H
  exact ⟨m, N, p, rfl, h2, h3, h4, h5, by omega, h7⟩
theorem geff_any (d : Int) (h1 : 1 ≤ d) (h2 : d ≤ 6) (w : World) : Calls Tryz.prog 76 #[.int .i64 d] w (BuiltN 3000 5 .u8 (dialG d) w) := by
  have h : d = 1 ∨ d = 2 ∨ d = 3 ∨ d = 4 ∨ d = 5 ∨ d = 6 := by omega
  rcases h with rfl | rfl | rfl | rfl | rfl | rfl
  · exact geff1 w
  · exact geff2 w
  · exact geff3 w
  · exact geff4 w
  · exact geff5 w
  · exact geff6 w
/-- What a look-up of an effect hands back. -/
def Looked (e : Eff) (w : World) (x : Ending) (w' : World) : Prop := ∃ v p, x = .returned v ∧ Lies p e v w' ∧ (∀ c, p c → w.heap.size ≤ c ∧ c < w'.heap.size) ∧ Below w.heap.size w w'
set_option maxHeartbeats 1000000 in
theorem geffect (d n : Int) (h1 : 1 ≤ d) (h2 : d ≤ 6) (n1 : 1 ≤ n) (n2 : n ≤ 36) (w : World) : Calls Tryz.prog 52 #[.agg #[.int .i64 d, .map none], .int .i64 n] w (Looked (dialG d (letN n)) w) := by
  have hmn : ∀ w : World, (binOp .neq 51 (.map none) (.map none)).run Tryz.prog w = .ok (.bool false) w := fun _ => by rfl
  have HW : Hid ((Lit.int .u8 (letN n)).wf = true) := hid (WalkArith.wf_u8 (by unfold letN; split <;> omega))
  have HD := hid (And.intro h1 h2)
  have HN := hid (And.intro n1 n2)
  clear h1 h2 n1 n2
  go_enter Tryz.func52, Tryz.ntmps52
  go_wp2_with fail
  go_at_call 76
  refine (geff_any d HD.out.1 HD.out.2 _).mono ?_
  rintro e w1 ⟨m, N, p, rfl, k2, k3, k4, k5, k6, k7, k8⟩
  have HT := hid k7
  have HB := hid k8
  have HS := hid k3
  clear k2 k3 k4 k5 k6 k7 k8
  go_wp2_with fail
  go_at_call 23
  refine (plet_any n HN.out.1 HN.out.2 _).mono ?_
  rintro e w2 ⟨rfl, rfl⟩
  obtain ⟨g, t1, t2⟩ := HT.out
  have hlk : (Instr.lookup 51 (.map (some m)) (.int .u8 (letN n)) false).run Tryz.prog w1 = .ok (g (letN n)) w1 := t1.look key5 Tryz.underlying51 (zero77 _) (keyOf_int_mk Tryz.underlying5 HW.out)
  have HL := hid (Lies.within _ _ (t2 (letN n)))
  clear t1 t2
  go_wp2
  go_ret
  refine ⟨_, _, rfl, HL.out, fun c hc => ⟨?_, hc.2⟩, Below.step (below1 _ _) HB.out⟩
  have := HS.out c hc.1
  simp at this
  omega

theorem upd_wf {G : Int → Eff} {k : Int} {e : Eff} (hG : ∀ x, Wf (G x)) (he : Wf e) : ∀ x, Wf (upd G k e x) := fun x => by
  unfold upd
  split
  · exact he
  · exact hG x
theorem nil_wf : ∀ x : Int, Wf ((fun _ => Eff.nil) x) := fun _ => trivial
theorem timed_wf (n : Int) : ∀ x, Wf (timedE n x) := by
  unfold timedE
  repeat' (first | exact nil_wf | (refine upd_wf ?_ ?_) | trivial)
theorem extE_wf : ∀ x, Wf (extE x) := by
  unfold extE
  repeat' (first | exact nil_wf | exact timed_wf _ | (refine upd_wf ?_ ?_) | trivial | (show IsFn _; unfold IsFn; decide) | (refine ⟨by decide, by decide, ?_, ?_⟩) | (exact ⟨by decide, by decide⟩) | (refine ⟨?_, ?_⟩) | (intro h; cases h; done))
theorem fourE_wf : ∀ x, Wf (fourE x) := by
  unfold fourE
  repeat' (first | exact nil_wf | exact timed_wf _ | exact extE_wf | (refine upd_wf ?_ ?_) | trivial | (show IsFn _; unfold IsFn; decide) | (refine ⟨by decide, by decide, ?_, ?_⟩) | (exact ⟨by decide, by decide⟩) | (refine ⟨?_, ?_⟩) | (intro h; cases h; done))
theorem composeE_wf : ∀ x, Wf (composeE x) := by
  unfold composeE
  repeat' (first | exact nil_wf | exact timed_wf _ | (refine upd_wf ?_ ?_) | trivial | (show IsFn _; unfold IsFn; decide) | (refine ⟨by decide, by decide, ?_, ?_⟩) | (exact ⟨by decide, by decide⟩) | (refine ⟨?_, ?_⟩) | (intro h; cases h; done))
theorem screamS_wf : ∀ x, Wf (screamS x) := by
  unfold screamS
  repeat' (first | exact nil_wf | exact timed_wf _ | (refine upd_wf ?_ ?_) | trivial | (show IsFn _; unfold IsFn; decide) | (refine ⟨by decide, by decide, ?_, ?_⟩) | (exact ⟨by decide, by decide⟩) | (refine ⟨?_, ?_⟩) | (intro h; cases h; done))
theorem screamE_wf : ∀ x, Wf (screamE x) := by
  unfold screamE
  repeat' (first | exact nil_wf | exact timed_wf _ | exact screamS_wf | (refine upd_wf ?_ ?_) | trivial | (show IsFn _; unfold IsFn; decide) | (refine ⟨by decide, by decide, ?_, ?_⟩) | (exact ⟨by decide, by decide⟩) | (refine ⟨?_, ?_⟩) | (intro h; cases h; done))
theorem turn1_wf {G : Int → Eff} {h : Int → Option Value} {left : Int → Bool} (hG : ∀ x, Wf (G x)) (hh : ∀ x k, h x = some (.int .i64 k) → 0 ≤ k ∧ k < 24 ∧ G x ≠ .nil) : ∀ x, Wf (turn1 G h left x) := fun x => by
  unfold turn1
  split
  · rename_i k hx
    split
    · exact hG x
    · obtain ⟨h1, h2, h3⟩ := hh x k hx
      exact ⟨h1, h2, h3, hG x⟩
  · exact hG x
theorem turn2_wf {G : Int → Eff} {h : Int → Option Value} {left : Int → Bool} (hG : ∀ x, Wf (G x)) (hh : ∀ x k, h x = some (.int .i64 k) → 0 ≤ k ∧ k < 24 ∧ ∃ n, G x = .lowHalf n) : ∀ x, Wf (turn2 G h left x) := fun x => by
  unfold turn2
  split
  · rename_i k hx
    split
    · exact hG x
    · obtain ⟨h1, h2, h3⟩ := hh x k hx
      exact ⟨h1, h2, h3⟩
  · exact hG x
theorem turn3_wf {G : Int → Eff} {h : Int → Option Value} {left : Int → Bool} (hG : ∀ x, Wf (G x)) (hI : ∀ x, Wf (impI x)) (hh : ∀ x k, h x = some (.int .i64 k) → 0 ≤ k ∧ k < 24 ∧ impI x ≠ .nil) : ∀ x, Wf (turn3 G h left x) := fun x => by
  unfold turn3
  split
  · rename_i k hx
    split
    · exact hG x
    · obtain ⟨h1, h2, h3⟩ := hh x k hx
      exact ⟨h1, h2, h3, hI x⟩
  · exact hG x
theorem fastK_k {x k : Int} (h : fastK x = some (.int .i64 k)) : 0 ≤ k ∧ k < 24 ∧ fourE x ≠ .nil := by
  obtain ⟨k', e, hn⟩ := fastK_int h
  refine ⟨?_, ?_, hn⟩ <;> (unfold fastK at h; repeat' split at h) <;> cases h <;> decide
theorem impK_k {x k : Int} (h : impK x = some (.int .i64 k)) : 0 ≤ k ∧ k < 24 ∧ impI x ≠ .nil := by
  obtain ⟨k', e, hn⟩ := impK_int h
  refine ⟨?_, ?_, hn⟩ <;> (unfold impK at h; repeat' split at h) <;> cases h <;> decide
theorem fastH_k {x k : Int} (h : fastH x = some (.int .i64 k)) : 0 ≤ k ∧ k < 24 ∧ ∃ n, extE x = .lowHalf n := by
  unfold fastH at h
  split at h
  · cases h; rename_i e; subst e; exact ⟨by decide, by decide, _, by simp [extE, upd]; rfl⟩
  split at h
  · cases h; rename_i e; subst e; exact ⟨by decide, by decide, _, by simp [extE, upd]; rfl⟩
  split at h
  · cases h; rename_i e; subst e; exact ⟨by decide, by decide, _, by simp [extE, upd]; rfl⟩
  split at h
  · cases h; rename_i e; subst e; exact ⟨by decide, by decide, _, by simp [extE, upd]; rfl⟩
  · cases h
theorem fast1E_wf : ∀ x, Wf (fast1E x) := turn1_wf fourE_wf fun _ _ h => fastK_k h
theorem fast2E_wf : ∀ x, Wf (fast2E x) := turn2_wf extE_wf fun _ _ h => fastH_k h
theorem fastX_wf : ∀ x, Wf (fastX x) := by
  unfold fastX
  repeat' (first | exact nil_wf | exact timed_wf _ | (refine upd_wf ?_ ?_) | trivial | (show IsFn _; unfold IsFn; decide) | (refine ⟨by decide, by decide, ?_, ?_⟩) | (exact ⟨by decide, by decide⟩) | (refine ⟨?_, ?_⟩) | (intro h; cases h; done))
theorem fastE_wf : ∀ x, Wf (fastE x) := by
  unfold fastE
  repeat' (first | exact nil_wf | exact timed_wf _ | exact fast1E_wf | exact fast2E_wf | exact fastX_wf | (refine upd_wf ?_ ?_) | trivial | (show IsFn _; unfold IsFn; decide) | (refine ⟨by decide, by decide, ?_, ?_⟩) | (exact ⟨by decide, by decide⟩) | (refine ⟨?_, ?_⟩) | (intro h; cases h; done))
theorem impI_wf : ∀ x, Wf (impI x) := by
  unfold impI
  repeat' (first | exact nil_wf | exact timed_wf _ | (refine upd_wf ?_ ?_) | trivial | (show IsFn _; unfold IsFn; decide) | (refine ⟨by decide, by decide, ?_, ?_⟩) | (exact ⟨by decide, by decide⟩) | (refine ⟨?_, ?_⟩) | (intro h; cases h; done))
theorem imp1E_wf : ∀ x, Wf (imp1E x) := turn3_wf screamE_wf impI_wf fun _ _ h => impK_k h
theorem impS_wf : ∀ x, Wf (impS x) := by
  unfold impS
  repeat' (first | exact nil_wf | exact timed_wf _ | (refine upd_wf ?_ ?_) | trivial | (show IsFn _; unfold IsFn; decide) | (refine ⟨by decide, by decide, ?_, ?_⟩) | (exact ⟨by decide, by decide⟩) | (refine ⟨?_, ?_⟩) | (intro h; cases h; done))
theorem impulseE_wf : ∀ x, Wf (impulseE x) := by
  unfold impulseE
  repeat' (first | exact nil_wf | exact timed_wf _ | exact imp1E_wf | exact impS_wf | (refine upd_wf ?_ ?_) | trivial | (show IsFn _; unfold IsFn; decide) | (refine ⟨by decide, by decide, ?_, ?_⟩) | (exact ⟨by decide, by decide⟩) | (refine ⟨?_, ?_⟩) | (intro h; cases h; done))
theorem chipD_wf (k : Nat) : ∀ x, Wf (chipD k x) := fun x => by
  unfold chipD
  split
  · trivial
  · exact fastE_wf x
theorem chipE_wf : ∀ x, Wf (chipE x) := by
  unfold chipE
  repeat' (first | exact nil_wf | exact timed_wf _ | exact chipD_wf _ | (refine upd_wf ?_ ?_) | trivial | (show IsFn _; unfold IsFn; decide) | (refine ⟨by decide, by decide, ?_, ?_⟩) | (exact ⟨by decide, by decide⟩) | (refine ⟨?_, ?_⟩) | (intro h; cases h; done))
theorem dialG_wf (d x : Int) : Wf (dialG d x) := by
  unfold dialG
  repeat' split
  · exact fourE_wf x
  · exact screamE_wf x
  · exact fastE_wf x
  · exact impulseE_wf x
  · exact composeE_wf x
  · exact chipE_wf x
end Go.Proofs.YtkpielgdfahanaaGreat
