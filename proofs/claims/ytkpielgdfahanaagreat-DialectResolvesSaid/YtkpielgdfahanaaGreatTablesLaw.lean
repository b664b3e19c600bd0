/- The law DialectTables: Quirks and Letters are the reference's, and two dialects differ; for any two numbers. -/
import Derived.Test.YtkpielgdfahanaaGreatAwake
import Derived.Test.YtkpielgdfahanaaGreatRefs1
namespace Go.Proofs.YtkpielgdfahanaaGreat
open Go.RowKit
set_option maxRecDepth 100000 in
theorem neq39_same (d : Int) (w : World) : (binOp .neq 39 (.agg (qz d)) (.agg (qz d))).run Tryz.prog w = .ok (.bool false) w := by
  refine qz_cases (fun q => (binOp .neq 39 (.agg q) (.agg q)).run Tryz.prog w = .ok (.bool false) w) d ?_ ?_ ?_ ?_ ?_ ?_ ?_ <;> kernel_rfl
theorem neq39_12 (w : World) : (binOp .neq 39 (.agg (qz 1)) (.agg (qz 2))).run Tryz.prog w = .ok (.bool true) w := by kernel_rfl
theorem neq39_13 (w : World) : (binOp .neq 39 (.agg (qz 1)) (.agg (qz 3))).run Tryz.prog w = .ok (.bool true) w := by kernel_rfl
theorem neq39_14 (w : World) : (binOp .neq 39 (.agg (qz 1)) (.agg (qz 4))).run Tryz.prog w = .ok (.bool true) w := by kernel_rfl
theorem neq39_15 (w : World) : (binOp .neq 39 (.agg (qz 1)) (.agg (qz 5))).run Tryz.prog w = .ok (.bool true) w := by kernel_rfl
theorem neq39_16 (w : World) : (binOp .neq 39 (.agg (qz 1)) (.agg (qz 6))).run Tryz.prog w = .ok (.bool true) w := by kernel_rfl
theorem neq39_21 (w : World) : (binOp .neq 39 (.agg (qz 2)) (.agg (qz 1))).run Tryz.prog w = .ok (.bool true) w := by kernel_rfl
theorem neq39_23 (w : World) : (binOp .neq 39 (.agg (qz 2)) (.agg (qz 3))).run Tryz.prog w = .ok (.bool true) w := by kernel_rfl
theorem neq39_24 (w : World) : (binOp .neq 39 (.agg (qz 2)) (.agg (qz 4))).run Tryz.prog w = .ok (.bool true) w := by kernel_rfl
theorem neq39_25 (w : World) : (binOp .neq 39 (.agg (qz 2)) (.agg (qz 5))).run Tryz.prog w = .ok (.bool true) w := by kernel_rfl
theorem neq39_26 (w : World) : (binOp .neq 39 (.agg (qz 2)) (.agg (qz 6))).run Tryz.prog w = .ok (.bool true) w := by kernel_rfl
theorem neq39_31 (w : World) : (binOp .neq 39 (.agg (qz 3)) (.agg (qz 1))).run Tryz.prog w = .ok (.bool true) w := by kernel_rfl
theorem neq39_32 (w : World) : (binOp .neq 39 (.agg (qz 3)) (.agg (qz 2))).run Tryz.prog w = .ok (.bool true) w := by kernel_rfl
theorem neq39_34 (w : World) : (binOp .neq 39 (.agg (qz 3)) (.agg (qz 4))).run Tryz.prog w = .ok (.bool true) w := by kernel_rfl
theorem neq39_35 (w : World) : (binOp .neq 39 (.agg (qz 3)) (.agg (qz 5))).run Tryz.prog w = .ok (.bool true) w := by kernel_rfl
theorem neq39_36 (w : World) : (binOp .neq 39 (.agg (qz 3)) (.agg (qz 6))).run Tryz.prog w = .ok (.bool true) w := by kernel_rfl
theorem neq39_41 (w : World) : (binOp .neq 39 (.agg (qz 4)) (.agg (qz 1))).run Tryz.prog w = .ok (.bool true) w := by kernel_rfl
theorem neq39_42 (w : World) : (binOp .neq 39 (.agg (qz 4)) (.agg (qz 2))).run Tryz.prog w = .ok (.bool true) w := by kernel_rfl
theorem neq39_43 (w : World) : (binOp .neq 39 (.agg (qz 4)) (.agg (qz 3))).run Tryz.prog w = .ok (.bool true) w := by kernel_rfl
theorem neq39_45 (w : World) : (binOp .neq 39 (.agg (qz 4)) (.agg (qz 5))).run Tryz.prog w = .ok (.bool true) w := by kernel_rfl
theorem neq39_46 (w : World) : (binOp .neq 39 (.agg (qz 4)) (.agg (qz 6))).run Tryz.prog w = .ok (.bool true) w := by kernel_rfl
theorem neq39_51 (w : World) : (binOp .neq 39 (.agg (qz 5)) (.agg (qz 1))).run Tryz.prog w = .ok (.bool true) w := by kernel_rfl
theorem neq39_52 (w : World) : (binOp .neq 39 (.agg (qz 5)) (.agg (qz 2))).run Tryz.prog w = .ok (.bool true) w := by kernel_rfl
theorem neq39_53 (w : World) : (binOp .neq 39 (.agg (qz 5)) (.agg (qz 3))).run Tryz.prog w = .ok (.bool true) w := by kernel_rfl
theorem neq39_54 (w : World) : (binOp .neq 39 (.agg (qz 5)) (.agg (qz 4))).run Tryz.prog w = .ok (.bool true) w := by kernel_rfl
theorem neq39_56 (w : World) : (binOp .neq 39 (.agg (qz 5)) (.agg (qz 6))).run Tryz.prog w = .ok (.bool true) w := by kernel_rfl
theorem neq39_61 (w : World) : (binOp .neq 39 (.agg (qz 6)) (.agg (qz 1))).run Tryz.prog w = .ok (.bool true) w := by kernel_rfl
theorem neq39_62 (w : World) : (binOp .neq 39 (.agg (qz 6)) (.agg (qz 2))).run Tryz.prog w = .ok (.bool true) w := by kernel_rfl
theorem neq39_63 (w : World) : (binOp .neq 39 (.agg (qz 6)) (.agg (qz 3))).run Tryz.prog w = .ok (.bool true) w := by kernel_rfl
theorem neq39_64 (w : World) : (binOp .neq 39 (.agg (qz 6)) (.agg (qz 4))).run Tryz.prog w = .ok (.bool true) w := by kernel_rfl
theorem neq39_65 (w : World) : (binOp .neq 39 (.agg (qz 6)) (.agg (qz 5))).run Tryz.prog w = .ok (.bool true) w := by kernel_rfl
theorem neq39_other (d c : Int) (h1 : 1 ≤ d ∧ d ≤ 6) (h2 : 1 ≤ c ∧ c ≤ 6) (h : d ≠ c) (w : World) : (binOp .neq 39 (.agg (qz d)) (.agg (qz c))).run Tryz.prog w = .ok (.bool true) w := by
  have e1 : d = 1 ∨ d = 2 ∨ d = 3 ∨ d = 4 ∨ d = 5 ∨ d = 6 := by omega
  have e2 : c = 1 ∨ c = 2 ∨ c = 3 ∨ c = 4 ∨ c = 5 ∨ c = 6 := by omega
  rcases e1 with rfl | rfl | rfl | rfl | rfl | rfl <;> rcases e2 with rfl | rfl | rfl | rfl | rfl | rfl
  · exact absurd rfl h
  · exact neq39_12 w
  · exact neq39_13 w
  · exact neq39_14 w
  · exact neq39_15 w
  · exact neq39_16 w
  · exact neq39_21 w
  · exact absurd rfl h
  · exact neq39_23 w
  · exact neq39_24 w
  · exact neq39_25 w
  · exact neq39_26 w
  · exact neq39_31 w
  · exact neq39_32 w
  · exact absurd rfl h
  · exact neq39_34 w
  · exact neq39_35 w
  · exact neq39_36 w
  · exact neq39_41 w
  · exact neq39_42 w
  · exact neq39_43 w
  · exact absurd rfl h
  · exact neq39_45 w
  · exact neq39_46 w
  · exact neq39_51 w
  · exact neq39_52 w
  · exact neq39_53 w
  · exact neq39_54 w
  · exact absurd rfl h
  · exact neq39_56 w
  · exact neq39_61 w
  · exact neq39_62 w
  · exact neq39_63 w
  · exact neq39_64 w
  · exact neq39_65 w
  · exact absurd rfl h
/-- A whole struct read from a place, by an operation that is wanted. -/
theorem wpList_load_g {P : Program} {ops : Array Oper} {rest : List Oper} {o : Oper} {a : Act} {w : World} {Q : Exit → Act → World → Prop} (hw : Region.wanted o (yielded ops a.tmps) = true) (ty : TypeId) (x : Operand) (ho : o.op = .load ty x) (b off : Nat) (hx : a.eval x = .pointer (some ⟨b, off, none⟩)) (cs : Array Value) (d : TypeDesc)
    (hr : RowAt w b off cs.toList) (hu : P.underlying ty = some d) (hd : (match d with | .struct _ | .array _ _ => true | _ => false) = true) (hi : (P.info? ty).map (·.size) = some cs.size)
    (h : wpList P ops Q rest (a.put o.dst (.agg cs)) w) : wpList P ops Q (o :: rest) a w :=
  wpList_step fun _ hK => by
    rw [if_pos hw]
    unfold Oper.wp execOp
    simp only [ho, hx, Instr.loadAt, Instr.sureAddr, Sem.run_bind, Sem.run_pure, Result.andThen_ok, run_loadVar_at w b off ty cs d hr hu hd hi]
    exact hK _ _ h
set_option maxHeartbeats 4000000 in
set_option maxRecDepth 100000 in
theorem tables_law (d c : Int) (w : World) : Calls Tryz.prog 6 #[.int .i64 d, .int .i64 c] w fun e w' => e = .returned (.bool true) ∧ BelowW w w' := by
  have HLS := hid (letters_any d)
  have HRS := hid (rletters_any d)
  go_enter Tryz.func6, Tryz.ntmps6
  go_wp2_with fail
  go_at_call 14
  refine (quirks_any d w).mono ?_
  rintro e w1 ⟨rfl, hb1⟩
  have B1 := hid (BelowW.step hb1 (below1 w1 (.cells (qz d) 39)))
  have R1 := hid (row_of_block (heap_alloc_new w1 (.cells (qz d) 39)))
  clear hb1
  go_upto_region 2 with (refine wpList_store_new rfl 39 _ _ rfl (qz 0) (qz d) rfl rfl (infoq d) (by rw [qz_size, qz_size]) (qz_one d) ?_)
  generalize w1.alloc (.cells (qz d) 39) = w2 at *
  generalize w1.heap.size = g5 at *
  go_wp2_with fail
  go_at_call 15
  refine (refquirks_any d w2).mono ?_
  rintro e w3 ⟨rfl, hb3⟩
  have B3 := hid ((BelowW.step B1.out hb3).step (below1 w3 (.cells (qz d) 39)))
  have R3 := hid ((R1.out.below hb3).below (below1 w3 (.cells (qz d) 39)))
  have S3 := hid (row_of_block (heap_alloc_new w3 (.cells (qz d) 39)))
  clear hb3 B1 R1
  go_upto_region 3 with (refine wpList_store_new rfl 39 _ _ rfl (qz 0) (qz d) rfl rfl (infoq d) (by rw [qz_size, qz_size]) (qz_one d) ?_)
  generalize w3.alloc (.cells (qz d) 39) = w4 at *
  generalize w3.heap.size = g7 at *
  have hnq := neq39_same d
  have hee : (qe d != qe d) = false := by simp
  go_upto_region 5 with (first | (refine wpList_load_at rfl 39 _ rfl g5 0 rfl (qz d) _ R3.out Tryz.underlying39 rfl (infoq d) ?_) | (refine wpList_load_at rfl 39 _ rfl g7 0 rfl (qz d) _ S3.out Tryz.underlying39 rfl (infoq d) ?_) | (go_at_call 16; refine (HLS.out _).mono ?_; rintro e w5 ⟨rfl, rfl⟩) | (go_at_call 17; refine (HRS.out _).mono ?_; rintro e w5 ⟨rfl, rfl⟩))
  clear hnq hee S3
  go_wp2_with fail
  go_at_call 14
  refine (quirks_any c w4).mono ?_
  rintro e w5 ⟨rfl, hb5⟩
  have B5 := hid ((BelowW.step B3.out hb5).step (below1 w5 (.cells (qz c) 39)))
  have R5 := hid ((R3.out.below hb5).below (below1 w5 (.cells (qz c) 39)))
  have S5 := hid (row_of_block (heap_alloc_new w5 (.cells (qz c) 39)))
  clear hb5 B3 R3
  go_upto_region 6 with (refine wpList_store_new rfl 39 _ _ rfl (qz 0) (qz c) rfl rfl (infoq c) (by rw [qz_size, qz_size]) (qz_one c) ?_)
  generalize w5.alloc (.cells (qz c) 39) = w6 at *
  generalize w5.heap.size = g9 at *
  by_cases hd : 1 ≤ d ∧ d ≤ 6
  · have e0 : Hid (qe d = 0) := hid (if_pos hd)
    rw [e0.out]
    by_cases hc : 1 ≤ c ∧ c ≤ 6
    · have e1 : Hid (qe c = 0) := hid (if_pos hc)
      rw [e1.out]
      by_cases hdc : d = c
      · subst hdc
        clear hd hc
        go_wp2_with (go_at_call 9; refine (awake_any _).mono ?_; rintro e w7 ⟨rfl, hb7⟩; have B7 := hid (BelowW.step B5.out hb7); clear hb7)
        go_ret
        exact ⟨rfl, B7⟩
      · have hdc1 : (d == c) = false := beq_false hdc
        have hne := neq39_other d c hd hc hdc
        clear hd hc hdc
        go_wp2_with (first | (refine wpList_load_g (by rfl) 39 _ rfl g5 0 rfl (qz d) _ R5.out Tryz.underlying39 rfl (infoq d) ?_) | (refine wpList_load_g (by rfl) 39 _ rfl g9 0 rfl (qz c) _ S5.out Tryz.underlying39 rfl (infoq c) ?_) | (go_at_call 9; refine (awake_any _).mono ?_; rintro e w7 ⟨rfl, hb7⟩; have B7 := hid (BelowW.step B5.out hb7); clear hb7))
        go_ret
        exact ⟨rfl, B7⟩
    · have e1 : Hid (qe c = 6) := hid (if_neg hc)
      rw [e1.out]
      clear hd hc
      go_wp2_with (go_at_call 9; refine (awake_any _).mono ?_; rintro e w7 ⟨rfl, hb7⟩; have B7 := hid (BelowW.step B5.out hb7); clear hb7)
      go_ret
      exact ⟨rfl, B7⟩
  · have e0 : Hid (qe d = 6) := hid (if_neg hd)
    rw [e0.out]
    clear hd
    go_wp2_with (go_at_call 9; refine (awake_any _).mono ?_; rintro e w7 ⟨rfl, hb7⟩; have B7 := hid (BelowW.step B5.out hb7); clear hb7)
    go_ret
    exact ⟨rfl, B7⟩
open Go.ChangeShapes Go.WideShapes Go.ChangeAt in
set_option maxRecDepth 100000 in
theorem DialectTables_opened {H : Type} {enc : TypeId × Value → H} (W : World) (base : Nat) (v0 v1 : Value) {d0 d1 : DataW H} {p0 p1 : List MemPlace}
    (o0 : Value.okWide Tryz.prog W .any base 3 v0) (o1 : Value.okWide Tryz.prog W .any base 3 v1) (h0 : DataW.Trod enc Tryz.prog W 0 (fun _ => true) true 3 v0 d0 p0) (h1 : DataW.Trod enc Tryz.prog W 0 (fun _ => true) true 3 v1 d1 p1) :
    Calls Tryz.prog 6 #[v0, v1] W fun e w' => e = .returned (.bool true) ∧ Below W.heap.size W w' := by
  obtain ⟨d, rfl, _⟩ := open_int Tryz.underlying3 o0 h0
  obtain ⟨c, rfl, _⟩ := open_int Tryz.underlying3 o1 h1
  exact tables_law d c W
end Go.Proofs.YtkpielgdfahanaaGreat
