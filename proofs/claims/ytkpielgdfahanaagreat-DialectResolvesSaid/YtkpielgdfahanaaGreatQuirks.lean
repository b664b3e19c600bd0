/- dialect.Quirks and the reference's Quirks return the same table of quirks and the same error, for any number. -/
import Derived.Test.YtkpielgdfahanaaGreatOpen
namespace Go.Proofs.YtkpielgdfahanaaGreat
open Go.RowKit
def qz (d : Int) : Array Value :=
  if d = 1 then #[.string ⟨#[102, 111, 117, 114]⟩, .int .i64 4, .int .i64 32, .int .i64 64, .int .i64 49, .int .i64 84, .bool false, .bool false, .bool false, .int .i64 1, .int .i64 453, .int .i64 3424, .bool false, .bool false, .bool false, .bool false, .int .i64 5, .bool true, .int .i64 1, .bool true, .bool false, .int .i64 1, .bool true, .bool false, .bool false, .bool true, .bool false, .bool false, .bool false] else
  if d = 2 then #[.string ⟨#[115, 99, 114, 101, 97, 109]⟩, .int .i64 16, .int .i64 32, .int .i64 64, .int .i64 13, .int .i64 108, .bool false, .bool true, .bool false, .int .i64 1, .int .i64 64, .int .i64 32767, .bool false, .bool false, .bool false, .bool false, .int .i64 5, .bool false, .int .i64 0, .bool false, .bool false, .int .i64 0, .bool false, .bool false, .bool false, .bool false, .bool false, .bool false, .bool false] else
  if d = 3 then #[.string ⟨#[102, 97, 115, 116]⟩, .int .i64 16, .int .i64 32, .int .i64 0, .int .i64 1, .int .i64 96, .bool true, .bool true, .bool true, .int .i64 0, .int .i64 32, .int .i64 65535, .bool true, .bool false, .bool false, .bool false, .int .i64 6, .bool true, .int .i64 0, .bool true, .bool true, .int .i64 1, .bool false, .bool true, .bool true, .bool true, .bool true, .bool true, .bool false] else
  if d = 4 then #[.string ⟨#[105, 109, 112, 117, 108, 115, 101]⟩, .int .i64 16, .int .i64 32, .int .i64 0, .int .i64 1, .int .i64 120, .bool true, .bool true, .bool true, .int .i64 0, .int .i64 16, .int .i64 65535, .bool false, .bool false, .bool false, .bool true, .int .i64 6, .bool false, .int .i64 0, .bool true, .bool false, .int .i64 2, .bool false, .bool true, .bool false, .bool false, .bool false, .bool true, .bool false] else
  if d = 5 then #[.string ⟨#[99, 111, 109, 112, 111, 115, 101]⟩, .int .i64 8, .int .i64 32, .int .i64 64, .int .i64 13, .int .i64 72, .bool false, .bool false, .bool false, .int .i64 2, .int .i64 0, .int .i64 0, .bool false, .bool true, .bool false, .bool false, .int .i64 5, .bool false, .int .i64 2, .bool false, .bool false, .int .i64 0, .bool false, .bool false, .bool false, .bool false, .bool false, .bool false, .bool true] else
  if d = 6 then #[.string ⟨#[99, 104, 105, 112]⟩, .int .i64 4, .int .i64 32, .int .i64 0, .int .i64 13, .int .i64 108, .bool true, .bool false, .bool false, .int .i64 1, .int .i64 16, .int .i64 65535, .bool false, .bool false, .bool true, .bool false, .int .i64 5, .bool true, .int .i64 2, .bool false, .bool false, .int .i64 0, .bool false, .bool true, .bool false, .bool false, .bool false, .bool true, .bool false] else
  #[.string ⟨#[]⟩, .int .i64 0, .int .i64 0, .int .i64 0, .int .i64 0, .int .i64 0, .bool false, .bool false, .bool false, .int .i64 0, .int .i64 0, .int .i64 0, .bool false, .bool false, .bool false, .bool false, .int .i64 0, .bool false, .int .i64 0, .bool false, .bool false, .int .i64 0, .bool false, .bool false, .bool false, .bool false, .bool false, .bool false, .bool false]
def qe (d : Int) : Int := if 1 ≤ d ∧ d ≤ 6 then 0 else 6
def carries (d : Int) : Bool := decide (d = 3) || decide (d = 4) || decide (d = 6)
theorem qz_cases (p : Array Value → Prop) (d : Int) (h1 : p (qz 1)) (h2 : p (qz 2)) (h3 : p (qz 3)) (h4 : p (qz 4)) (h5 : p (qz 5)) (h6 : p (qz 6)) (h0 : p (qz 0)) : p (qz d) := by
  by_cases e1 : d = 1
  · subst e1; exact h1
  by_cases e2 : d = 2
  · subst e2; exact h2
  by_cases e3 : d = 3
  · subst e3; exact h3
  by_cases e4 : d = 4
  · subst e4; exact h4
  by_cases e5 : d = 5
  · subst e5; exact h5
  by_cases e6 : d = 6
  · subst e6; exact h6
  have : qz d = qz 0 := by unfold qz; simp only [e1, e2, e3, e4, e5, e6, if_false]; rfl
  rw [this]; exact h0
theorem qz_size (d : Int) : (qz d).size = 29 := qz_cases (fun q => q.size = 29) d rfl rfl rfl rfl rfl rfl rfl
theorem qz_one (d : Int) : (qz d).toList.all (·.oneCell') = true := qz_cases (fun q => q.toList.all (·.oneCell') = true) d rfl rfl rfl rfl rfl rfl rfl
theorem qz_carry (d : Int) : (qz d)[23]? = some (.bool (carries d)) := by
  by_cases h : d = 1 ∨ d = 2 ∨ d = 3 ∨ d = 4 ∨ d = 5 ∨ d = 6
  · rcases h with rfl | rfl | rfl | rfl | rfl | rfl <;> rfl
  · have e : qz d = qz 0 := by unfold qz; rw [if_neg (by omega), if_neg (by omega), if_neg (by omega), if_neg (by omega), if_neg (by omega), if_neg (by omega)]; rfl
    have e2 : carries d = false := by simp [carries]; omega
    rw [e, e2]; rfl

theorem is_no (d : Int) (w : World) (h : ¬ (1 ≤ d ∧ d ≤ 6)) :
    Calls Tryz.prog 18 #[.int .i64 d] w fun e w' => e = .returned (.bool false) ∧ w = w' := by
  by_cases h1 : 1 ≤ d
  · have h2 : ¬ d ≤ 6 := fun h2 => h ⟨h1, h2⟩
    clear h
    go_enter Tryz.func18, Tryz.ntmps18
    go_wp2
    go_ret
    exact ⟨rfl, rfl⟩
  · clear h
    go_enter Tryz.func18, Tryz.ntmps18
    go_wp2
    go_ret
    exact ⟨rfl, rfl⟩
theorem is_yes (d : Int) (w : World) (h1 : 1 ≤ d) (h2 : d ≤ 6) :
    Calls Tryz.prog 18 #[.int .i64 d] w fun e w' => e = .returned (.bool true) ∧ w = w' := by
  go_enter Tryz.func18, Tryz.ntmps18
  go_wp2
  go_ret
  exact ⟨rfl, rfl⟩

/-- The table, cell by cell. -/
def tabz : Array Value := qz 0 ++ qz 1 ++ qz 2 ++ qz 3 ++ qz 4 ++ qz 5 ++ qz 6
theorem size62 : (Tryz.prog.info? 62).map (·.size) = some 203 := by kernel_rfl
theorem size39 : (Tryz.prog.info? 39).map (·.size) = some 29 := by kernel_rfl
def Tabled (w : World) (e : Ending) (w' : World) : Prop := ∃ T, e = .returned (.agg T) ∧ T = tabz ∧ Below w.heap.size w w'
set_option maxRecDepth 100000 in
set_option maxHeartbeats 1000000 in
theorem table_any (w : World) : Calls Tryz.prog 34 #[] w (Tabled w) := by
  go_enter Tryz.func34, Tryz.ntmps34
  go_wp2_with (first | (refine wpList_build rfl 39 _ rfl (by kernel_rfl) ?_) | (refine wpList_build rfl 62 _ rfl (by kernel_rfl) ?_) | (refine wpList_store_new rfl 62 _ _ rfl _ _ rfl rfl (by kernel_rfl) (by kernel_rfl) (by kernel_rfl) ?_))
  exact bodyPost_ret (results_cell_row rfl _ _ w.heap.size 62 _ (0, 0) _ rfl (heap_alloc_new w _) Tryz.underlying62 rfl (by kernel_rfl)) rfl ⟨_, rfl, by kernel_rfl, Below.grow (Below.refl _ _) _⟩

theorem run_tab1 (w : World) : (Instr.index 62 (.agg tabz) (.int .i64 1)).run Tryz.prog w = .ok (.agg (qz 1)) w := by kernel_rfl
theorem run_tab2 (w : World) : (Instr.index 62 (.agg tabz) (.int .i64 2)).run Tryz.prog w = .ok (.agg (qz 2)) w := by kernel_rfl
theorem run_tab3 (w : World) : (Instr.index 62 (.agg tabz) (.int .i64 3)).run Tryz.prog w = .ok (.agg (qz 3)) w := by kernel_rfl
theorem run_tab4 (w : World) : (Instr.index 62 (.agg tabz) (.int .i64 4)).run Tryz.prog w = .ok (.agg (qz 4)) w := by kernel_rfl
theorem run_tab5 (w : World) : (Instr.index 62 (.agg tabz) (.int .i64 5)).run Tryz.prog w = .ok (.agg (qz 5)) w := by kernel_rfl
theorem run_tab6 (w : World) : (Instr.index 62 (.agg tabz) (.int .i64 6)).run Tryz.prog w = .ok (.agg (qz 6)) w := by kernel_rfl
theorem run_tab (d : Int) (h1 : 1 ≤ d) (h2 : d ≤ 6) (w : World) : (Instr.index 62 (.agg tabz) (.int .i64 d)).run Tryz.prog w = .ok (.agg (qz d)) w := by
  have h : d = 1 ∨ d = 2 ∨ d = 3 ∨ d = 4 ∨ d = 5 ∨ d = 6 := by omega
  rcases h with rfl | rfl | rfl | rfl | rfl | rfl
  · exact run_tab1 w
  · exact run_tab2 w
  · exact run_tab3 w
  · exact run_tab4 w
  · exact run_tab5 w
  · exact run_tab6 w
def Quirked (d : Int) (w : World) (e : Ending) (w' : World) : Prop := e = .returned (.tuple #[.agg (qz d), .int .i64 (qe d)]) ∧ Below w.heap.size w w'
theorem zeroq (d : Int) (h : ¬ (1 ≤ d ∧ d ≤ 6)) : qz d = qz 0 ∧ qe d = 6 := by
  refine ⟨?_, if_neg h⟩
  unfold qz; rw [if_neg (by omega), if_neg (by omega), if_neg (by omega), if_neg (by omega), if_neg (by omega), if_neg (by omega)]; rfl
theorem info29 : (Tryz.prog.info? 39).map (·.size) = some (qz 0).size := by kernel_rfl
theorem infoq (d : Int) : (Tryz.prog.info? 39).map (·.size) = some (qz d).size := by rw [qz_size]; exact size39

set_option maxRecDepth 100000 in
set_option maxHeartbeats 1000000 in
theorem quirks_any (d : Int) (w : World) : Calls Tryz.prog 14 #[.int .i64 d] w (Quirked d w) := by
  by_cases h : 1 ≤ d ∧ d ≤ 6
  · have HQ := hid h
    have HE : Hid (qe d = 0) := hid (if_pos h)
    have HR := hid (run_tab d h.1 h.2)
    clear h
    go_enter Tryz.func14, Tryz.ntmps14
    go_wp2_with fail
    refine (is_yes _ _ HQ.out.1 HQ.out.2).mono ?_
    rintro e w1 ⟨rfl, rfl⟩
    go_wp2_with fail
    refine (table_any _).mono ?_
    rintro e w2 ⟨T, rfl, rfl, hb⟩
    have hr := HR.out
    have HB := hid (Below.step (Below.grow (Below.refl w.heap.size w) _) hb)
    have HG : Hid (w2.heap[w.heap.size]? = some (.cells (qz 0) 39 (0, 0))) := hid ((hb.block _ (by simp)).trans (heap_alloc_new w _))
    clear hb
    go_wp2_with (refine wpList_store_block rfl 39 _ _ rfl w.heap.size (qz d) rfl rfl 39 (qz 0) HG.out (infoq d) (by rw [qz_size, qz_size]) (qz_one d) ?_)
    exact bodyPost_ret (results_row_tmp rfl _ _ w.heap.size 39 (qz d) (0, 0) _ rfl (setRow_heap _ _ _ _ _ _ HG.out) Tryz.underlying39 rfl (infoq d)) rfl ⟨by rw [HE.out]; rfl, Below.row HB.out (Nat.le_refl _) _⟩
  · have HZ := hid (zeroq d h)
    have HQ := hid h; clear h
    go_enter Tryz.func14, Tryz.ntmps14
    go_wp2_with fail
    refine (is_no _ _ HQ.out).mono ?_
    rintro e w1 ⟨rfl, rfl⟩
    go_wp2_with (first | (refine wpList_build rfl 39 _ rfl (by kernel_rfl) ?_) | (refine wpList_store_new rfl 39 _ _ rfl _ _ rfl rfl (by kernel_rfl) (by kernel_rfl) (by kernel_rfl) ?_))
    refine bodyPost_ret (results_row_tmp rfl _ _ w.heap.size 39 _ (0, 0) _ rfl (heap_alloc_new w _) Tryz.underlying39 rfl (by kernel_rfl)) rfl ⟨?_, Below.grow (Below.refl _ _) _⟩
    rw [HZ.out.1, HZ.out.2]
    kernel_rfl

set_option maxRecDepth 100000 in
set_option maxHeartbeats 1000000 in
theorem refquirks_1 (w : World) : Calls Tryz.prog 15 #[.int .i64 1] w (Quirked 1 w) := by
  go_enter Tryz.func15, Tryz.ntmps15
  go_wp2_with (first | (refine wpList_build rfl 39 _ rfl (by kernel_rfl) ?_) | (refine wpList_store_new rfl 39 _ _ rfl _ _ rfl rfl (by kernel_rfl) (by kernel_rfl) (by kernel_rfl) ?_))
  refine bodyPost_ret (results_row_tmp rfl _ _ w.heap.size 39 _ (0, 0) _ rfl (heap_alloc_new w _) Tryz.underlying39 rfl (by kernel_rfl)) rfl ⟨?_, Below.grow (Below.refl _ _) _⟩
  kernel_rfl

set_option maxRecDepth 100000 in
set_option maxHeartbeats 1000000 in
theorem refquirks_2 (w : World) : Calls Tryz.prog 15 #[.int .i64 2] w (Quirked 2 w) := by
  go_enter Tryz.func15, Tryz.ntmps15
  go_wp2_with (first | (refine wpList_build rfl 39 _ rfl (by kernel_rfl) ?_) | (refine wpList_store_new rfl 39 _ _ rfl _ _ rfl rfl (by kernel_rfl) (by kernel_rfl) (by kernel_rfl) ?_))
  refine bodyPost_ret (results_row_tmp rfl _ _ w.heap.size 39 _ (0, 0) _ rfl (heap_alloc_new w _) Tryz.underlying39 rfl (by kernel_rfl)) rfl ⟨?_, Below.grow (Below.refl _ _) _⟩
  kernel_rfl

set_option maxRecDepth 100000 in
set_option maxHeartbeats 1000000 in
theorem refquirks_3 (w : World) : Calls Tryz.prog 15 #[.int .i64 3] w (Quirked 3 w) := by
  go_enter Tryz.func15, Tryz.ntmps15
  go_wp2_with (first | (refine wpList_build rfl 39 _ rfl (by kernel_rfl) ?_) | (refine wpList_store_new rfl 39 _ _ rfl _ _ rfl rfl (by kernel_rfl) (by kernel_rfl) (by kernel_rfl) ?_))
  refine bodyPost_ret (results_row_tmp rfl _ _ w.heap.size 39 _ (0, 0) _ rfl (heap_alloc_new w _) Tryz.underlying39 rfl (by kernel_rfl)) rfl ⟨?_, Below.grow (Below.refl _ _) _⟩
  kernel_rfl

set_option maxRecDepth 100000 in
set_option maxHeartbeats 1000000 in
theorem refquirks_4 (w : World) : Calls Tryz.prog 15 #[.int .i64 4] w (Quirked 4 w) := by
  go_enter Tryz.func15, Tryz.ntmps15
  go_wp2_with (first | (refine wpList_build rfl 39 _ rfl (by kernel_rfl) ?_) | (refine wpList_store_new rfl 39 _ _ rfl _ _ rfl rfl (by kernel_rfl) (by kernel_rfl) (by kernel_rfl) ?_))
  refine bodyPost_ret (results_row_tmp rfl _ _ w.heap.size 39 _ (0, 0) _ rfl (heap_alloc_new w _) Tryz.underlying39 rfl (by kernel_rfl)) rfl ⟨?_, Below.grow (Below.refl _ _) _⟩
  kernel_rfl

set_option maxRecDepth 100000 in
set_option maxHeartbeats 1000000 in
theorem refquirks_5 (w : World) : Calls Tryz.prog 15 #[.int .i64 5] w (Quirked 5 w) := by
  go_enter Tryz.func15, Tryz.ntmps15
  go_wp2_with (first | (refine wpList_build rfl 39 _ rfl (by kernel_rfl) ?_) | (refine wpList_store_new rfl 39 _ _ rfl _ _ rfl rfl (by kernel_rfl) (by kernel_rfl) (by kernel_rfl) ?_))
  refine bodyPost_ret (results_row_tmp rfl _ _ w.heap.size 39 _ (0, 0) _ rfl (heap_alloc_new w _) Tryz.underlying39 rfl (by kernel_rfl)) rfl ⟨?_, Below.grow (Below.refl _ _) _⟩
  kernel_rfl

set_option maxRecDepth 100000 in
set_option maxHeartbeats 1000000 in
theorem refquirks_6 (w : World) : Calls Tryz.prog 15 #[.int .i64 6] w (Quirked 6 w) := by
  go_enter Tryz.func15, Tryz.ntmps15
  go_wp2_with (first | (refine wpList_build rfl 39 _ rfl (by kernel_rfl) ?_) | (refine wpList_store_new rfl 39 _ _ rfl _ _ rfl rfl (by kernel_rfl) (by kernel_rfl) (by kernel_rfl) ?_))
  refine bodyPost_ret (results_row_tmp rfl _ _ w.heap.size 39 _ (0, 0) _ rfl (heap_alloc_new w _) Tryz.underlying39 rfl (by kernel_rfl)) rfl ⟨?_, Below.grow (Below.refl _ _) _⟩
  kernel_rfl

set_option maxRecDepth 100000 in
set_option maxHeartbeats 1000000 in
theorem refquirks_no (d : Int) (h : ¬ (1 ≤ d ∧ d ≤ 6)) (w : World) : Calls Tryz.prog 15 #[.int .i64 d] w (Quirked d w) := by
  have HZ := hid (zeroq d h)
  have t1 : (d == 1) = false := beq_false (by omega)
  have t2 : (d == 2) = false := beq_false (by omega)
  have t3 : (d == 3) = false := beq_false (by omega)
  have t4 : (d == 4) = false := beq_false (by omega)
  have t5 : (d == 5) = false := beq_false (by omega)
  have t6 : (d == 6) = false := beq_false (by omega)
  clear h
  go_enter Tryz.func15, Tryz.ntmps15
  go_wp2_with (first | (refine wpList_build rfl 39 _ rfl (by kernel_rfl) ?_) | (refine wpList_store_new rfl 39 _ _ rfl _ _ rfl rfl (by kernel_rfl) (by kernel_rfl) (by kernel_rfl) ?_))
  refine bodyPost_ret (results_row_tmp rfl _ _ w.heap.size 39 _ (0, 0) _ rfl (heap_alloc_new w _) Tryz.underlying39 rfl (by kernel_rfl)) rfl ⟨?_, Below.grow (Below.refl _ _) _⟩
  rw [HZ.out.1, HZ.out.2]
  kernel_rfl
theorem refquirks_any (d : Int) (w : World) : Calls Tryz.prog 15 #[.int .i64 d] w (Quirked d w) := by
  by_cases h : 1 ≤ d ∧ d ≤ 6
  · have h : d = 1 ∨ d = 2 ∨ d = 3 ∨ d = 4 ∨ d = 5 ∨ d = 6 := by omega
    rcases h with rfl | rfl | rfl | rfl | rfl | rfl
    · exact refquirks_1 w
    · exact refquirks_2 w
    · exact refquirks_3 w
    · exact refquirks_4 w
    · exact refquirks_5 w
    · exact refquirks_6 w
  · exact refquirks_no d h w
end Go.Proofs.YtkpielgdfahanaaGreat
