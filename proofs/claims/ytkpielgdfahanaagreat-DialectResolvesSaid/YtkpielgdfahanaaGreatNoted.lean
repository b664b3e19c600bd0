/- Which notes a dialect has: hasNote and the reference's noted. -/
import Derived.Test.YtkpielgdfahanaaGreatVCell
import Derived.Test.YtkpielgdfahanaaGreatLasting
import Derived.Deep.Cut
namespace Go.Proofs.YtkpielgdfahanaaGreat
open Go.RowKit Go.Maps
def lowD (d : Int) : Int := if d = 1 then 49 else if d = 2 then 13 else if d = 3 then 1 else if d = 4 then 1 else if d = 5 then 13 else if d = 6 then 13 else 0
def highD (d : Int) : Int := if d = 1 then 84 else if d = 2 then 108 else if d = 3 then 96 else if d = 4 then 120 else if d = 5 then 72 else if d = 6 then 108 else 0
def noteD (d n : Int) : Bool := if n = 0 then true else if n = 255 then decide (d = 3 ∨ d = 4 ∨ d = 6) else if n = 254 then decide (d = 2 ∨ d = 4) else if n = 253 then decide (d = 4) else inr n (lowD d) (highD d)
theorem qz_lh (d : Int) : (qz d)[4]? = some (.int .i64 (lowD d)) ∧ (qz d)[5]? = some (.int .i64 (highD d)) := by
  by_cases h : d = 1 ∨ d = 2 ∨ d = 3 ∨ d = 4 ∨ d = 5 ∨ d = 6
  · rcases h with rfl | rfl | rfl | rfl | rfl | rfl <;> exact ⟨rfl, rfl⟩
  · have e : qz d = qz 0 := by unfold qz; rw [if_neg (by omega), if_neg (by omega), if_neg (by omega), if_neg (by omega), if_neg (by omega), if_neg (by omega)]; rfl
    have e2 : lowD d = 0 := by unfold lowD; rw [if_neg (by omega), if_neg (by omega), if_neg (by omega), if_neg (by omega), if_neg (by omega), if_neg (by omega)]
    have e3 : highD d = 0 := by unfold highD; rw [if_neg (by omega), if_neg (by omega), if_neg (by omega), if_neg (by omega), if_neg (by omega), if_neg (by omega)]
    rw [e, e2, e3]; exact ⟨rfl, rfl⟩
theorem noteD_0 (d : Int) : noteD d 0 = true := rfl
theorem noteD_n {d n : Int} (h0 : n ≠ 0) (h1 : n ≠ 255) (h2 : n ≠ 254) (h3 : n ≠ 253) : noteD d n = inr n (lowD d) (highD d) := by unfold noteD; rw [if_neg h0, if_neg h1, if_neg h2, if_neg h3]
set_option maxHeartbeats 4000000 in
set_option maxRecDepth 100000 in
theorem hasNote_any (d n : Int) (d1 : 1 ≤ d) (d2 : d ≤ 6) (w : World) : Calls Tryz.prog 20 #[.int .i64 d, .int .i64 n] w fun x w' => x = .returned (.bool (noteD d n)) ∧ BelowW w w' := by
  have HR := hid (run_tab d d1 d2)
  have HQ := hid (qz_lh d)
  clear d1 d2
  go_enter Tryz.func20, Tryz.ntmps20
  go_wp2_with fail
  go_at_call 34
  refine (table_any _).mono ?_
  rintro e w2 ⟨T, rfl, rfl, hb⟩
  have hr := HR.out
  go_upto_region 2 with (refine wpList_store_new rfl 39 _ _ rfl (qz 0) (qz d) rfl rfl (infoq d) (by rw [qz_size, qz_size]) (qz_one d) ?_)
  have q4 : (w2.alloc (.cells (qz d) 39)).cell? ⟨w2.heap.size, 4, none⟩ = some (.int .i64 (lowD d)) := by rw [cell_of_row _ _ 4 _ _ _ (heap_alloc_new w2 _)]; exact HQ.out.1
  have q5 : (w2.alloc (.cells (qz d) 39)).cell? ⟨w2.heap.size, 5, none⟩ = some (.int .i64 (highD d)) := by rw [cell_of_row _ _ 5 _ _ _ (heap_alloc_new w2 _)]; exact HQ.out.2
  have HB : BelowW w (w2.alloc (.cells (qz d) 39)) := Below.step hb (below1 _ _)
  clear hr HR HQ hb
  generalize w2.alloc (.cells (qz d) 39) = w3 at *
  generalize w2.heap.size = g at *
  by_cases n0 : n = 0
  · subst n0
    go_wp2
    go_ret
    exact ⟨by rw [noteD_0]; rfl, HB⟩
  have t0 : (n == 0) = false := beq_false n0
  by_cases n1 : n = 255
  · subst n1
    have E : Hid (noteD d 255 = decide (d = 3 ∨ d = 4 ∨ d = 6)) := hid rfl
    clear t0 n0
    by_cases d3 : d = 3
    · subst d3; go_wp2; go_ret; exact ⟨by rw [E.out]; rfl, HB⟩
    have t3 : (d == 3) = false := beq_false d3
    by_cases d4 : d = 4
    · subst d4; clear t3 d3; go_wp2; go_ret; exact ⟨by rw [E.out]; rfl, HB⟩
    have t4 : (d == 4) = false := beq_false d4
    by_cases d6 : d = 6
    · subst d6; clear t3 t4 d3 d4; go_wp2; go_ret; exact ⟨by rw [E.out]; rfl, HB⟩
    have t6 : (d == 6) = false := beq_false d6
    have E2 : Hid (noteD d 255 = false) := hid (by rw [E.out]; exact decide_eq_false (by omega))
    clear d3 d4 d6
    go_wp2
    go_ret
    exact ⟨by rw [E2.out]; rfl, HB⟩
  have t1 : (n == 255) = false := beq_false n1
  by_cases n2 : n = 254
  · subst n2
    have E : Hid (noteD d 254 = decide (d = 2 ∨ d = 4)) := hid rfl
    clear t0 t1 n0 n1
    by_cases d3 : d = 2
    · subst d3; go_wp2; go_ret; exact ⟨by rw [E.out]; rfl, HB⟩
    have t3 : (d == 2) = false := beq_false d3
    by_cases d4 : d = 4
    · subst d4; clear t3 d3; go_wp2; go_ret; exact ⟨by rw [E.out]; rfl, HB⟩
    have t4 : (d == 4) = false := beq_false d4
    have E2 : Hid (noteD d 254 = false) := hid (by rw [E.out]; exact decide_eq_false (by omega))
    clear d3 d4
    go_wp2
    go_ret
    exact ⟨by rw [E2.out]; rfl, HB⟩
  have t2 : (n == 254) = false := beq_false n2
  by_cases n3 : n = 253
  · subst n3
    have E : Hid (noteD d 253 = decide (d = 4)) := hid rfl
    clear t0 t1 t2 n0 n1 n2
    by_cases d4 : d = 4
    · subst d4; go_wp2; go_ret; exact ⟨by rw [E.out]; rfl, HB⟩
    have t4 : (d == 4) = false := beq_false d4
    have E2 : Hid (noteD d 253 = false) := hid (by rw [E.out]; exact decide_eq_false d4)
    clear d4
    go_wp2
    go_ret
    exact ⟨by rw [E2.out]; rfl, HB⟩
  have t3 : (n == 253) = false := beq_false n3
  have E := hid (noteD_n (d := d) n0 n1 n2 n3)
  clear n0 n1 n2 n3
  generalize lowD d = lo at *
  generalize highD d = hi at *
  by_cases h1 : lo ≤ n
  · have b1 : decide (lo ≤ n) = true := decide_eq_true h1
    by_cases h2 : n ≤ hi
    · have b2 : decide (n ≤ hi) = true := decide_eq_true h2
      have E2 : Hid (noteD d n = true) := hid (by rw [E.out]; unfold inr; rw [b1, b2]; rfl)
      go_wp2; go_ret; exact ⟨by rw [E2.out]; rfl, HB⟩
    · have b2 : decide (n ≤ hi) = false := decide_eq_false h2
      have E2 : Hid (noteD d n = false) := hid (by rw [E.out]; unfold inr; rw [b1, b2]; rfl)
      go_wp2; go_ret; exact ⟨by rw [E2.out]; rfl, HB⟩
  · have b1 : decide (lo ≤ n) = false := decide_eq_false h1
    have E2 : Hid (noteD d n = false) := hid (by rw [E.out]; unfold inr; rw [b1]; rfl)
    go_wp2; go_ret; exact ⟨by rw [E2.out]; rfl, HB⟩
set_option maxHeartbeats 4000000 in
set_option maxRecDepth 100000 in
theorem rnoted_any (d n : Int) (w : World) : Calls Tryz.prog 25 #[.int .i64 d, .int .i64 n] w fun x w' => x = .returned (.bool (noteD d n)) ∧ BelowW w w' := by
  have HQ := hid (qz_lh d)
  go_enter Tryz.func25, Tryz.ntmps25
  go_wp2_with fail
  go_at_call 15
  refine (refquirks_any d _).mono ?_
  rintro e w2 ⟨rfl, hb⟩
  go_upto_region 2 with (refine wpList_store_new rfl 39 _ _ rfl (qz 0) (qz d) rfl rfl (infoq d) (by rw [qz_size, qz_size]) (qz_one d) ?_)
  have q4 : (w2.alloc (.cells (qz d) 39)).cell? ⟨w2.heap.size, 4, none⟩ = some (.int .i64 (lowD d)) := by rw [cell_of_row _ _ 4 _ _ _ (heap_alloc_new w2 _)]; exact HQ.out.1
  have q5 : (w2.alloc (.cells (qz d) 39)).cell? ⟨w2.heap.size, 5, none⟩ = some (.int .i64 (highD d)) := by rw [cell_of_row _ _ 5 _ _ _ (heap_alloc_new w2 _)]; exact HQ.out.2
  have HB : BelowW w (w2.alloc (.cells (qz d) 39)) := Below.step hb (below1 _ _)
  clear HQ hb
  generalize w2.alloc (.cells (qz d) 39) = w3 at *
  generalize w2.heap.size = g at *
  by_cases n0 : n = 0
  · subst n0
    go_wp2
    go_ret
    exact ⟨by rw [noteD_0]; rfl, HB⟩
  have t0 : (n == 0) = false := beq_false n0
  by_cases n1 : n = 255
  · subst n1
    have E : Hid (noteD d 255 = decide (d = 3 ∨ d = 4 ∨ d = 6)) := hid rfl
    clear t0 n0
    by_cases d3 : d = 3
    · subst d3; go_wp2; go_ret; exact ⟨by rw [E.out]; rfl, HB⟩
    have t3 : (d == 3) = false := beq_false d3
    by_cases d4 : d = 4
    · subst d4; clear t3 d3; go_wp2; go_ret; exact ⟨by rw [E.out]; rfl, HB⟩
    have t4 : (d == 4) = false := beq_false d4
    by_cases d6 : d = 6
    · subst d6; clear t3 t4 d3 d4; go_wp2; go_ret; exact ⟨by rw [E.out]; rfl, HB⟩
    have t6 : (d == 6) = false := beq_false d6
    have E2 : Hid (noteD d 255 = false) := hid (by rw [E.out]; exact decide_eq_false (by omega))
    clear d3 d4 d6
    go_wp2
    go_ret
    exact ⟨by rw [E2.out]; rfl, HB⟩
  have t1 : (n == 255) = false := beq_false n1
  by_cases n2 : n = 254
  · subst n2
    have E : Hid (noteD d 254 = decide (d = 2 ∨ d = 4)) := hid rfl
    clear t0 t1 n0 n1
    by_cases d3 : d = 2
    · subst d3; go_wp2; go_ret; exact ⟨by rw [E.out]; rfl, HB⟩
    have t3 : (d == 2) = false := beq_false d3
    by_cases d4 : d = 4
    · subst d4; clear t3 d3; go_wp2; go_ret; exact ⟨by rw [E.out]; rfl, HB⟩
    have t4 : (d == 4) = false := beq_false d4
    have E2 : Hid (noteD d 254 = false) := hid (by rw [E.out]; exact decide_eq_false (by omega))
    clear d3 d4
    go_wp2
    go_ret
    exact ⟨by rw [E2.out]; rfl, HB⟩
  have t2 : (n == 254) = false := beq_false n2
  by_cases n3 : n = 253
  · subst n3
    have E : Hid (noteD d 253 = decide (d = 4)) := hid rfl
    clear t0 t1 t2 n0 n1 n2
    by_cases d4 : d = 4
    · subst d4; go_wp2; go_ret; exact ⟨by rw [E.out]; rfl, HB⟩
    have t4 : (d == 4) = false := beq_false d4
    have E2 : Hid (noteD d 253 = false) := hid (by rw [E.out]; exact decide_eq_false d4)
    clear d4
    go_wp2
    go_ret
    exact ⟨by rw [E2.out]; rfl, HB⟩
  have t3 : (n == 253) = false := beq_false n3
  have E := hid (noteD_n (d := d) n0 n1 n2 n3)
  clear n0 n1 n2 n3
  generalize lowD d = lo at *
  generalize highD d = hi at *
  by_cases h1 : lo ≤ n
  · have b1 : decide (lo ≤ n) = true := decide_eq_true h1
    by_cases h2 : n ≤ hi
    · have b2 : decide (n ≤ hi) = true := decide_eq_true h2
      have E2 : Hid (noteD d n = true) := hid (by rw [E.out]; unfold inr; rw [b1, b2]; rfl)
      go_wp2; go_ret; exact ⟨by rw [E2.out]; rfl, HB⟩
    · have b2 : decide (n ≤ hi) = false := decide_eq_false h2
      have E2 : Hid (noteD d n = false) := hid (by rw [E.out]; unfold inr; rw [b1, b2]; rfl)
      go_wp2; go_ret; exact ⟨by rw [E2.out]; rfl, HB⟩
  · have b1 : decide (lo ≤ n) = false := decide_eq_false h1
    have E2 : Hid (noteD d n = false) := hid (by rw [E.out]; unfold inr; rw [b1]; rfl)
    go_wp2; go_ret; exact ⟨by rw [E2.out]; rfl, HB⟩
end Go.Proofs.YtkpielgdfahanaaGreat
