/- The law DialectCells: dialect.ValidCell is the reference's, for any dialect and cell. -/
import Derived.Test.YtkpielgdfahanaaGreatRValid
import Derived.Test.YtkpielgdfahanaaGreatAwake
namespace Go.Proofs.YtkpielgdfahanaaGreat
open Go.RowKit Go.Maps
theorem pvalid_eq (d note inst vc va e p : Int) (b : Bool) (h : validB d note inst vc va e p = b) (w : World) : Calls Tryz.prog 7 #[.int .i64 d, .agg #[.int .i64 note, .int .i64 inst, .int .i64 vc, .int .i64 va, .int .i64 e, .int .i64 p]] w fun x w' => x = .returned (.bool b) ∧ Below w.heap.size w w' := by
  subst h; exact pvalid_any d note inst vc va e p w
theorem rvalid_eq (d note inst vc va e p : Int) (b : Bool) (h : validB d note inst vc va e p = b) (w : World) : Calls Tryz.prog 8 #[.int .i64 d, .agg #[.int .i64 note, .int .i64 inst, .int .i64 vc, .int .i64 va, .int .i64 e, .int .i64 p]] w fun x w' => x = .returned (.bool b) ∧ Below w.heap.size w w' := by
  subst h; exact rvalid_any d note inst vc va e p w
set_option maxHeartbeats 4000000 in
set_option maxRecDepth 100000 in
theorem cells_true (d note inst vc va e p : Int) (hv : validB d note inst vc va e p = true) (w : World) : Calls Tryz.prog 3 #[.int .i64 d, .agg #[.int .i64 note, .int .i64 inst, .int .i64 vc, .int .i64 va, .int .i64 e, .int .i64 p]] w fun x w' => x = .returned (.bool true) ∧ BelowW w w' := by
  have HV := hid hv
  clear hv
  have HS := hid (Six.box note inst vc va e p w)
  have HB : BelowW w (w.alloc (.cells #[.int .i64 note, .int .i64 inst, .int .i64 vc, .int .i64 va, .int .i64 e, .int .i64 p] 23)) := below1 w _
  go_enter Tryz.func3, Tryz.ntmps3
  go_upto_region 1 with (fail)
  generalize w.alloc (.cells #[.int .i64 note, .int .i64 inst, .int .i64 vc, .int .i64 va, .int .i64 e, .int .i64 p] 23) = w1 at *
  generalize w.heap.size = g at *
  refine wp_region_pure (n := 11) (fun X => #[.int .i64 d, .agg #[.int .i64 note, .int .i64 inst, .int .i64 vc, .int .i64 va, .int .i64 e, .int .i64 p], undef, .pointer (some ⟨g, 0, none⟩), X 10, X 0, X 1, X 2, X 3, X 4, X 5, X 6, X 7, X 8, X 9]) (fun j => match j with | 0 => .int .i64 d | 1 => .agg #[.int .i64 note, .int .i64 inst, .int .i64 vc, .int .i64 va, .int .i64 e, .int .i64 p] | 2 => .bool true | 3 => .int .i64 d | 4 => .agg #[.int .i64 note, .int .i64 inst, .int .i64 vc, .int .i64 va, .int .i64 e, .int .i64 p] | 5 => .bool true | 6 => .bool true | 7 => .bool true | 8 => .bool true | 9 => .bool true | 10 => .bool true | _ => undef) (Six g note inst vc va e p w1) (fun j => match j with | 10 => .bool false | _ => undef) (by kernel_rfl) rfl (by kernel_rfl) rfl ?hR0 ?hfr ?hstep ?hend
  case hR0 => exact HS.out.drew
  case hfr =>
    intro X h
    simp only [h 0 (by decide), h 1 (by decide), h 2 (by decide), h 3 (by decide), h 4 (by decide), h 5 (by decide), h 6 (by decide), h 7 (by decide), h 8 (by decide), h 9 (by decide), h 10 (by decide)]
  case hstep =>
    intro i oi hoi X w5 h hR
    match i, hoi with
    | 0, hoi =>
      cases hoi
      clear h
      refine wpOp_do rfl rfl ?_
      go_simp
      exact ⟨rfl, hR⟩
    | 1, hoi =>
      cases hoi
      clear h
      refine wpOp_do rfl rfl ?_
      obtain ⟨q0, q1, q2, q3, q4, q5, -⟩ := id hR
      go_simp
      exact ⟨rfl, hR⟩
    | 2, hoi =>
      cases hoi
      have x0 : X 0 = .int .i64 d := h ⟨0, .data⟩ (by simp) (by rfl)
      have x1 : X 1 = .agg #[.int .i64 note, .int .i64 inst, .int .i64 vc, .int .i64 va, .int .i64 e, .int .i64 p] := h ⟨1, .data⟩ (by simp) (by rfl)
      clear h
      refine wpOp_do rfl rfl ?_
      simp only [x0, x1]
      go_simp
      go_at_call 7
      refine (pvalid_eq d note inst vc va e p _ HV.out _).mono ?_
      rintro x w6 ⟨rfl, hb⟩
      go_simp
      refine Stepped.mk2 (fun j => if j = 2 then .bool true else if j = 0 then .int .i64 d else if j = 1 then .agg #[.int .i64 note, .int .i64 inst, .int .i64 vc, .int .i64 va, .int .i64 e, .int .i64 p] else X j) (fun j hj => ?_) rfl (hR.next hb)
      rw [if_neg hj]
      by_cases e0 : j = 0
      · subst e0; exact x0.symm
      rw [if_neg e0]
      by_cases e1 : j = 1
      · subst e1; exact x1.symm
      rw [if_neg e1]
    | 3, hoi =>
      cases hoi
      clear h
      refine wpOp_do rfl rfl ?_
      go_simp
      exact ⟨rfl, hR⟩
    | 4, hoi =>
      cases hoi
      clear h
      refine wpOp_do rfl rfl ?_
      obtain ⟨q0, q1, q2, q3, q4, q5, -⟩ := id hR
      go_simp
      exact ⟨rfl, hR⟩
    | 5, hoi =>
      cases hoi
      have x3 : X 3 = .int .i64 d := h ⟨3, .data⟩ (by simp) (by rfl)
      have x4 : X 4 = .agg #[.int .i64 note, .int .i64 inst, .int .i64 vc, .int .i64 va, .int .i64 e, .int .i64 p] := h ⟨4, .data⟩ (by simp) (by rfl)
      have x2 : X 2 = .bool true := h ⟨2, .chain⟩ (by simp) (by rfl)
      clear h
      refine wpOp_do rfl rfl ?_
      simp only [x2, x3, x4]
      go_simp
      go_at_call 8
      refine (rvalid_eq d note inst vc va e p _ HV.out _).mono ?_
      rintro x w6 ⟨rfl, hb⟩
      go_simp
      refine Stepped.mk2 (fun j => if j = 5 then .bool true else if j = 2 then .bool true else if j = 3 then .int .i64 d else if j = 4 then .agg #[.int .i64 note, .int .i64 inst, .int .i64 vc, .int .i64 va, .int .i64 e, .int .i64 p] else X j) (fun j hj => ?_) rfl (hR.next hb)
      rw [if_neg hj]
      by_cases e2 : j = 2
      · subst e2; exact x2.symm
      rw [if_neg e2]
      by_cases e3 : j = 3
      · subst e3; exact x3.symm
      rw [if_neg e3]
      by_cases e4 : j = 4
      · subst e4; exact x4.symm
      rw [if_neg e4]
    | 6, hoi =>
      cases hoi
      have x2 : X 2 = .bool true := h ⟨2, .data⟩ (by simp) (by rfl)
      have x5 : X 5 = .bool true := h ⟨5, .data⟩ (by simp) (by rfl)
      clear h
      refine wpOp_do rfl rfl ?_
      simp only [x2, x5]
      go_simp
      refine Stepped.mk2 (fun j => if j = 6 then .bool true else if j = 2 then .bool true else if j = 5 then .bool true else X j) (fun j hj => ?_) rfl hR
      rw [if_neg hj]
      by_cases e2 : j = 2
      · subst e2; exact x2.symm
      rw [if_neg e2]
      by_cases e5 : j = 5
      · subst e5; exact x5.symm
      rw [if_neg e5]
    | 7, hoi =>
      cases hoi
      have x6 : X 6 = .bool true := h ⟨6, .data⟩ (by simp) (by rfl)
      have x5 : X 5 = .bool true := h ⟨5, .chain⟩ (by simp) (by rfl)
      clear h
      refine wpOp_do rfl rfl ?_
      simp only [x5, x6]
      go_simp
      refine Stepped.mk2 (fun j => if j = 7 then .bool true else if j = 5 then .bool true else if j = 6 then .bool true else X j) (fun j hj => ?_) rfl hR
      rw [if_neg hj]
      by_cases e5 : j = 5
      · subst e5; exact x5.symm
      rw [if_neg e5]
      by_cases e6 : j = 6
      · subst e6; exact x6.symm
      rw [if_neg e6]
    | 8, hoi =>
      cases hoi
      have x7 : X 7 = .bool true := h ⟨7, .chain⟩ (by simp) (by rfl)
      clear h
      refine wpOp_do rfl ?_ ?_
      · show Region.wanted _ (yielded _ _) = true
        simp only [x7]
        rfl
      simp only [x7]
      go_simp
      go_at_call 9
      refine (awake_any _).mono ?_
      rintro x w6 ⟨rfl, hb⟩
      go_simp
      refine Stepped.mk2 (fun j => if j = 8 then .bool true else if j = 7 then .bool true else X j) (fun j hj => ?_) rfl (hR.next hb)
      rw [if_neg hj]
      by_cases e7 : j = 7
      · subst e7; exact x7.symm
      rw [if_neg e7]
    | 9, hoi =>
      cases hoi
      have x7 : X 7 = .bool true := h ⟨7, .data⟩ (by simp) (by rfl)
      have x8 : X 8 = .bool true := h ⟨8, .data⟩ (by simp) (by rfl)
      clear h
      refine wpOp_do rfl rfl ?_
      simp only [x7, x8]
      go_simp
      refine Stepped.mk2 (fun j => if j = 9 then .bool true else if j = 7 then .bool true else if j = 8 then .bool true else X j) (fun j hj => ?_) rfl hR
      rw [if_neg hj]
      by_cases e7 : j = 7
      · subst e7; exact x7.symm
      rw [if_neg e7]
      by_cases e8 : j = 8
      · subst e8; exact x8.symm
      rw [if_neg e8]
    | 10, hoi =>
      cases hoi
      have x9 : X 9 = .bool true := h ⟨9, .data⟩ (by simp) (by rfl)
      have x8 : X 8 = .bool true := h ⟨8, .chain⟩ (by simp) (by rfl)
      have x0 : X 0 = .int .i64 d := h ⟨0, .phase⟩ (by simp) (by rfl)
      have x1 : X 1 = .agg #[.int .i64 note, .int .i64 inst, .int .i64 vc, .int .i64 va, .int .i64 e, .int .i64 p] := h ⟨1, .phase⟩ (by simp) (by rfl)
      have x2 : X 2 = .bool true := h ⟨2, .phase⟩ (by simp) (by rfl)
      have x3 : X 3 = .int .i64 d := h ⟨3, .phase⟩ (by simp) (by rfl)
      have x4 : X 4 = .agg #[.int .i64 note, .int .i64 inst, .int .i64 vc, .int .i64 va, .int .i64 e, .int .i64 p] := h ⟨4, .phase⟩ (by simp) (by rfl)
      have x5 : X 5 = .bool true := h ⟨5, .phase⟩ (by simp) (by rfl)
      have x6 : X 6 = .bool true := h ⟨6, .phase⟩ (by simp) (by rfl)
      have x7 : X 7 = .bool true := h ⟨7, .phase⟩ (by simp) (by rfl)
      clear h
      refine wpOp_do rfl rfl ?_
      simp only [x0, x1, x2, x3, x4, x5, x6, x7, x8, x9]
      go_simp
      refine Stepped.mk2 (fun j => if j = 10 then .bool true else if j = 0 then .int .i64 d else if j = 1 then .agg #[.int .i64 note, .int .i64 inst, .int .i64 vc, .int .i64 va, .int .i64 e, .int .i64 p] else if j = 2 then .bool true else if j = 3 then .int .i64 d else if j = 4 then .agg #[.int .i64 note, .int .i64 inst, .int .i64 vc, .int .i64 va, .int .i64 e, .int .i64 p] else if j = 5 then .bool true else if j = 6 then .bool true else if j = 7 then .bool true else if j = 8 then .bool true else if j = 9 then .bool true else X j) (fun j hj => ?_) rfl hR
      rw [if_neg hj]
      by_cases e0 : j = 0
      · subst e0; exact x0.symm
      rw [if_neg e0]
      by_cases e1 : j = 1
      · subst e1; exact x1.symm
      rw [if_neg e1]
      by_cases e2 : j = 2
      · subst e2; exact x2.symm
      rw [if_neg e2]
      by_cases e3 : j = 3
      · subst e3; exact x3.symm
      rw [if_neg e3]
      by_cases e4 : j = 4
      · subst e4; exact x4.symm
      rw [if_neg e4]
      by_cases e5 : j = 5
      · subst e5; exact x5.symm
      rw [if_neg e5]
      by_cases e6 : j = 6
      · subst e6; exact x6.symm
      rw [if_neg e6]
      by_cases e7 : j = 7
      · subst e7; exact x7.symm
      rw [if_neg e7]
      by_cases e8 : j = 8
      · subst e8; exact x8.symm
      rw [if_neg e8]
      by_cases e9 : j = 9
      · subst e9; exact x9.symm
      rw [if_neg e9]
    | i + 11, hoi => simp at hoi
  case hend =>
    intro w5 hR
    dsimp only
    go_wp2
    go_ret
    exact ⟨rfl, hR.bel HB⟩
set_option maxHeartbeats 4000000 in
set_option maxRecDepth 100000 in
theorem cells_false (d note inst vc va e p : Int) (hv : validB d note inst vc va e p = false) (w : World) : Calls Tryz.prog 3 #[.int .i64 d, .agg #[.int .i64 note, .int .i64 inst, .int .i64 vc, .int .i64 va, .int .i64 e, .int .i64 p]] w fun x w' => x = .returned (.bool true) ∧ BelowW w w' := by
  have HV := hid hv
  clear hv
  have HS := hid (Six.box note inst vc va e p w)
  have HB : BelowW w (w.alloc (.cells #[.int .i64 note, .int .i64 inst, .int .i64 vc, .int .i64 va, .int .i64 e, .int .i64 p] 23)) := below1 w _
  go_enter Tryz.func3, Tryz.ntmps3
  go_upto_region 1 with (fail)
  generalize w.alloc (.cells #[.int .i64 note, .int .i64 inst, .int .i64 vc, .int .i64 va, .int .i64 e, .int .i64 p] 23) = w1 at *
  generalize w.heap.size = g at *
  refine wp_region_pure (n := 11) (fun X => #[.int .i64 d, .agg #[.int .i64 note, .int .i64 inst, .int .i64 vc, .int .i64 va, .int .i64 e, .int .i64 p], undef, .pointer (some ⟨g, 0, none⟩), X 10, X 0, X 1, X 2, X 3, X 4, X 5, X 6, X 7, X 8, X 9]) (fun j => match j with | 0 => .int .i64 d | 1 => .agg #[.int .i64 note, .int .i64 inst, .int .i64 vc, .int .i64 va, .int .i64 e, .int .i64 p] | 2 => .bool false | 3 => .int .i64 d | 4 => .agg #[.int .i64 note, .int .i64 inst, .int .i64 vc, .int .i64 va, .int .i64 e, .int .i64 p] | 5 => .bool false | 6 => .bool true | 7 => .bool true | 8 => .bool true | 9 => .bool true | 10 => .bool true | _ => undef) (Six g note inst vc va e p w1) (fun j => match j with | 10 => .bool false | _ => undef) (by kernel_rfl) rfl (by kernel_rfl) rfl ?hR0 ?hfr ?hstep ?hend
  case hR0 => exact HS.out.drew
  case hfr =>
    intro X h
    simp only [h 0 (by decide), h 1 (by decide), h 2 (by decide), h 3 (by decide), h 4 (by decide), h 5 (by decide), h 6 (by decide), h 7 (by decide), h 8 (by decide), h 9 (by decide), h 10 (by decide)]
  case hstep =>
    intro i oi hoi X w5 h hR
    match i, hoi with
    | 0, hoi =>
      cases hoi
      clear h
      refine wpOp_do rfl rfl ?_
      go_simp
      exact ⟨rfl, hR⟩
    | 1, hoi =>
      cases hoi
      clear h
      refine wpOp_do rfl rfl ?_
      obtain ⟨q0, q1, q2, q3, q4, q5, -⟩ := id hR
      go_simp
      exact ⟨rfl, hR⟩
    | 2, hoi =>
      cases hoi
      have x0 : X 0 = .int .i64 d := h ⟨0, .data⟩ (by simp) (by rfl)
      have x1 : X 1 = .agg #[.int .i64 note, .int .i64 inst, .int .i64 vc, .int .i64 va, .int .i64 e, .int .i64 p] := h ⟨1, .data⟩ (by simp) (by rfl)
      clear h
      refine wpOp_do rfl rfl ?_
      simp only [x0, x1]
      go_simp
      go_at_call 7
      refine (pvalid_eq d note inst vc va e p _ HV.out _).mono ?_
      rintro x w6 ⟨rfl, hb⟩
      go_simp
      refine Stepped.mk2 (fun j => if j = 2 then .bool false else if j = 0 then .int .i64 d else if j = 1 then .agg #[.int .i64 note, .int .i64 inst, .int .i64 vc, .int .i64 va, .int .i64 e, .int .i64 p] else X j) (fun j hj => ?_) rfl (hR.next hb)
      rw [if_neg hj]
      by_cases e0 : j = 0
      · subst e0; exact x0.symm
      rw [if_neg e0]
      by_cases e1 : j = 1
      · subst e1; exact x1.symm
      rw [if_neg e1]
    | 3, hoi =>
      cases hoi
      clear h
      refine wpOp_do rfl rfl ?_
      go_simp
      exact ⟨rfl, hR⟩
    | 4, hoi =>
      cases hoi
      clear h
      refine wpOp_do rfl rfl ?_
      obtain ⟨q0, q1, q2, q3, q4, q5, -⟩ := id hR
      go_simp
      exact ⟨rfl, hR⟩
    | 5, hoi =>
      cases hoi
      have x3 : X 3 = .int .i64 d := h ⟨3, .data⟩ (by simp) (by rfl)
      have x4 : X 4 = .agg #[.int .i64 note, .int .i64 inst, .int .i64 vc, .int .i64 va, .int .i64 e, .int .i64 p] := h ⟨4, .data⟩ (by simp) (by rfl)
      have x2 : X 2 = .bool false := h ⟨2, .chain⟩ (by simp) (by rfl)
      clear h
      refine wpOp_do rfl rfl ?_
      simp only [x2, x3, x4]
      go_simp
      go_at_call 8
      refine (rvalid_eq d note inst vc va e p _ HV.out _).mono ?_
      rintro x w6 ⟨rfl, hb⟩
      go_simp
      refine Stepped.mk2 (fun j => if j = 5 then .bool false else if j = 2 then .bool false else if j = 3 then .int .i64 d else if j = 4 then .agg #[.int .i64 note, .int .i64 inst, .int .i64 vc, .int .i64 va, .int .i64 e, .int .i64 p] else X j) (fun j hj => ?_) rfl (hR.next hb)
      rw [if_neg hj]
      by_cases e2 : j = 2
      · subst e2; exact x2.symm
      rw [if_neg e2]
      by_cases e3 : j = 3
      · subst e3; exact x3.symm
      rw [if_neg e3]
      by_cases e4 : j = 4
      · subst e4; exact x4.symm
      rw [if_neg e4]
    | 6, hoi =>
      cases hoi
      have x2 : X 2 = .bool false := h ⟨2, .data⟩ (by simp) (by rfl)
      have x5 : X 5 = .bool false := h ⟨5, .data⟩ (by simp) (by rfl)
      clear h
      refine wpOp_do rfl rfl ?_
      simp only [x2, x5]
      go_simp
      refine Stepped.mk2 (fun j => if j = 6 then .bool true else if j = 2 then .bool false else if j = 5 then .bool false else X j) (fun j hj => ?_) rfl hR
      rw [if_neg hj]
      by_cases e2 : j = 2
      · subst e2; exact x2.symm
      rw [if_neg e2]
      by_cases e5 : j = 5
      · subst e5; exact x5.symm
      rw [if_neg e5]
    | 7, hoi =>
      cases hoi
      have x6 : X 6 = .bool true := h ⟨6, .data⟩ (by simp) (by rfl)
      have x5 : X 5 = .bool false := h ⟨5, .chain⟩ (by simp) (by rfl)
      clear h
      refine wpOp_do rfl rfl ?_
      simp only [x5, x6]
      go_simp
      refine Stepped.mk2 (fun j => if j = 7 then .bool true else if j = 5 then .bool false else if j = 6 then .bool true else X j) (fun j hj => ?_) rfl hR
      rw [if_neg hj]
      by_cases e5 : j = 5
      · subst e5; exact x5.symm
      rw [if_neg e5]
      by_cases e6 : j = 6
      · subst e6; exact x6.symm
      rw [if_neg e6]
    | 8, hoi =>
      cases hoi
      have x7 : X 7 = .bool true := h ⟨7, .chain⟩ (by simp) (by rfl)
      clear h
      refine wpOp_do rfl ?_ ?_
      · show Region.wanted _ (yielded _ _) = true
        simp only [x7]
        rfl
      simp only [x7]
      go_simp
      go_at_call 9
      refine (awake_any _).mono ?_
      rintro x w6 ⟨rfl, hb⟩
      go_simp
      refine Stepped.mk2 (fun j => if j = 8 then .bool true else if j = 7 then .bool true else X j) (fun j hj => ?_) rfl (hR.next hb)
      rw [if_neg hj]
      by_cases e7 : j = 7
      · subst e7; exact x7.symm
      rw [if_neg e7]
    | 9, hoi =>
      cases hoi
      have x7 : X 7 = .bool true := h ⟨7, .data⟩ (by simp) (by rfl)
      have x8 : X 8 = .bool true := h ⟨8, .data⟩ (by simp) (by rfl)
      clear h
      refine wpOp_do rfl rfl ?_
      simp only [x7, x8]
      go_simp
      refine Stepped.mk2 (fun j => if j = 9 then .bool true else if j = 7 then .bool true else if j = 8 then .bool true else X j) (fun j hj => ?_) rfl hR
      rw [if_neg hj]
      by_cases e7 : j = 7
      · subst e7; exact x7.symm
      rw [if_neg e7]
      by_cases e8 : j = 8
      · subst e8; exact x8.symm
      rw [if_neg e8]
    | 10, hoi =>
      cases hoi
      have x9 : X 9 = .bool true := h ⟨9, .data⟩ (by simp) (by rfl)
      have x8 : X 8 = .bool true := h ⟨8, .chain⟩ (by simp) (by rfl)
      have x0 : X 0 = .int .i64 d := h ⟨0, .phase⟩ (by simp) (by rfl)
      have x1 : X 1 = .agg #[.int .i64 note, .int .i64 inst, .int .i64 vc, .int .i64 va, .int .i64 e, .int .i64 p] := h ⟨1, .phase⟩ (by simp) (by rfl)
      have x2 : X 2 = .bool false := h ⟨2, .phase⟩ (by simp) (by rfl)
      have x3 : X 3 = .int .i64 d := h ⟨3, .phase⟩ (by simp) (by rfl)
      have x4 : X 4 = .agg #[.int .i64 note, .int .i64 inst, .int .i64 vc, .int .i64 va, .int .i64 e, .int .i64 p] := h ⟨4, .phase⟩ (by simp) (by rfl)
      have x5 : X 5 = .bool false := h ⟨5, .phase⟩ (by simp) (by rfl)
      have x6 : X 6 = .bool true := h ⟨6, .phase⟩ (by simp) (by rfl)
      have x7 : X 7 = .bool true := h ⟨7, .phase⟩ (by simp) (by rfl)
      clear h
      refine wpOp_do rfl rfl ?_
      simp only [x0, x1, x2, x3, x4, x5, x6, x7, x8, x9]
      go_simp
      refine Stepped.mk2 (fun j => if j = 10 then .bool true else if j = 0 then .int .i64 d else if j = 1 then .agg #[.int .i64 note, .int .i64 inst, .int .i64 vc, .int .i64 va, .int .i64 e, .int .i64 p] else if j = 2 then .bool false else if j = 3 then .int .i64 d else if j = 4 then .agg #[.int .i64 note, .int .i64 inst, .int .i64 vc, .int .i64 va, .int .i64 e, .int .i64 p] else if j = 5 then .bool false else if j = 6 then .bool true else if j = 7 then .bool true else if j = 8 then .bool true else if j = 9 then .bool true else X j) (fun j hj => ?_) rfl hR
      rw [if_neg hj]
      by_cases e0 : j = 0
      · subst e0; exact x0.symm
      rw [if_neg e0]
      by_cases e1 : j = 1
      · subst e1; exact x1.symm
      rw [if_neg e1]
      by_cases e2 : j = 2
      · subst e2; exact x2.symm
      rw [if_neg e2]
      by_cases e3 : j = 3
      · subst e3; exact x3.symm
      rw [if_neg e3]
      by_cases e4 : j = 4
      · subst e4; exact x4.symm
      rw [if_neg e4]
      by_cases e5 : j = 5
      · subst e5; exact x5.symm
      rw [if_neg e5]
      by_cases e6 : j = 6
      · subst e6; exact x6.symm
      rw [if_neg e6]
      by_cases e7 : j = 7
      · subst e7; exact x7.symm
      rw [if_neg e7]
      by_cases e8 : j = 8
      · subst e8; exact x8.symm
      rw [if_neg e8]
      by_cases e9 : j = 9
      · subst e9; exact x9.symm
      rw [if_neg e9]
    | i + 11, hoi => simp at hoi
  case hend =>
    intro w5 hR
    dsimp only
    go_wp2
    go_ret
    exact ⟨rfl, hR.bel HB⟩
theorem cells23 : Tryz.prog.cellsOf 23 = 6 := by kernel_rfl
theorem cells_law (d note inst vc va e p : Int) (w : World) : Calls Tryz.prog 3 #[.int .i64 d, .agg #[.int .i64 note, .int .i64 inst, .int .i64 vc, .int .i64 va, .int .i64 e, .int .i64 p]] w fun x w' => x = .returned (.bool true) ∧ BelowW w w' := by
  cases hv : validB d note inst vc va e p with
  | true => exact cells_true d note inst vc va e p hv w
  | false => exact cells_false d note inst vc va e p hv w
open Go.ChangeShapes Go.WideShapes Go.ChangeAt in
set_option maxRecDepth 100000 in
theorem open_cell {H : Type} {enc : TypeId × Value → H} (W : World) (base : Nat) (v : Value) (d : DataW H) (p : List MemPlace)
    (ho : Value.okWide Tryz.prog W .any base 23 v) (h : DataW.Trod enc Tryz.prog W 0 (fun _ => true) true 23 v d p) :
    ∃ note inst vc va e p : Int, v = .agg #[.int .i64 note, .int .i64 inst, .int .i64 vc, .int .i64 va, .int .i64 e, .int .i64 p] := by
  obtain ⟨ca, rfl, hsz⟩ := okWide_struct Tryz.underlying23 ho
  rw [cells23] at hsz
  obtain ⟨fuel, hf⟩ := h
  obtain ⟨n0, e0, _⟩ := field_int Tryz.underlying23 hf 0 3 0 rfl Tryz.underlying3 cells3
  obtain ⟨n1, e1, _⟩ := field_int Tryz.underlying23 hf 1 3 1 rfl Tryz.underlying3 cells3
  obtain ⟨n2, e2, _⟩ := field_int Tryz.underlying23 hf 2 3 2 rfl Tryz.underlying3 cells3
  obtain ⟨n3, e3, _⟩ := field_int Tryz.underlying23 hf 3 3 3 rfl Tryz.underlying3 cells3
  obtain ⟨n4, e4, _⟩ := field_int Tryz.underlying23 hf 4 3 4 rfl Tryz.underlying3 cells3
  obtain ⟨n5, e5, _⟩ := field_int Tryz.underlying23 hf 5 3 5 rfl Tryz.underlying3 cells3
  refine ⟨n0, n1, n2, n3, n4, n5, ?_⟩
  obtain ⟨l, rfl⟩ : ∃ l : List Value, ca = l.toArray := ⟨ca.toList, by simp⟩
  match l, hsz with
  | [y0, y1, y2, y3, y4, y5], _ =>
    simp [Value.cells] at e0 e1 e2 e3 e4 e5
    subst e0 e1 e2 e3 e4 e5
    rfl
open Go.ChangeShapes Go.WideShapes Go.ChangeAt in
theorem DialectCells_opened {H : Type} {enc : TypeId × Value → H} (W : World) (base : Nat) (v0 v1 : Value) {d0 d1 : DataW H} {p0 p1 : List MemPlace}
    (o0 : Value.okWide Tryz.prog W .any base 3 v0) (o1 : Value.okWide Tryz.prog W .any base 23 v1) (h0 : DataW.Trod enc Tryz.prog W 0 (fun _ => true) true 3 v0 d0 p0) (h1 : DataW.Trod enc Tryz.prog W 0 (fun _ => true) true 23 v1 d1 p1) :
    Calls Tryz.prog 3 #[v0, v1] W fun e w' => e = .returned (.bool true) ∧ Below W.heap.size W w' := by
  obtain ⟨d, rfl, _⟩ := open_int Tryz.underlying3 o0 h0
  obtain ⟨note, inst, vc, va, e, p, rfl⟩ := open_cell W base v1 d1 p1 o1 h1
  exact cells_law d note inst vc va e p W
end Go.Proofs.YtkpielgdfahanaaGreat
