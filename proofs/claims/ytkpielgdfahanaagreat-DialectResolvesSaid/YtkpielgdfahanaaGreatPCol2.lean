/- asking.column: the command of the volume column. -/
import Derived.Test.YtkpielgdfahanaaGreatPRun
import Derived.StillTailTactics
import Derived.Deep.Cut
/- The commands of the volume column. -/
namespace Go.Proofs.YtkpielgdfahanaaGreat
open Go.RowKit Go.Maps
def colT (i : Int) : Int := if i = 0 then 0 else if i = 1 then 1 else if i = 2 then 4 else if i = 3 then 8 else if i = 4 then 16 else if i = 5 then 32 else if i = 6 then 64 else if i = 7 then 96 else if i = 8 then 128 else 255
theorem colT_range (i : Int) : 0 ≤ colT i ∧ colT i ≤ 255 := by unfold colT; repeat' split <;> omega
/-- What a command of the volume column does. -/
def colE (fast : Bool) (cmd arg : Int) (s : St) : St :=
  if cmd = 1 then s.ask 15 (min arg 64) 0 else
  if cmd = 2 then s.ask 12 arg 0 else
  if cmd = 3 then s.ask 12 0 arg else
  if cmd = 4 then s.ask 13 arg 0 else
  if cmd = 5 then s.ask 14 arg 0 else
  if cmd = 6 then s.ask 16 (4 * min arg 64) 0 else
  if cmd = 7 then (if fast then ((s.put (16 * min arg 15)).whole 1).ask 8 ((s.put (16 * min arg 15)).whole 1).p 0 else ((s.put (colT (min arg 9))).whole 2).ask 8 ((s.put (colT (min arg 9))).whole 2).p 0) else
  if cmd = 8 then (if fast then ((s.put (min arg 15)).halves 2).ask 9 ((s.put (min arg 15)).halves 2).h ((s.put (min arg 15)).halves 2).l else ((s.put (min arg 15)).halves 3).ask 9 ((s.put (min arg 15)).halves 3).h ((s.put (min arg 15)).halves 3).l) else
  if cmd = 9 then s.ask 3 (4 * arg) 0 else
  if cmd = 10 then s.ask 2 (4 * arg) 0 else s
section
variable {p : Nat → Prop} {b base : Nat} {d : Int} {s : St} {v : Value} {rc : Bool} {w : World}
set_option maxHeartbeats 4000000 in
theorem pcol62 (arg : Int) (a0 : 0 ≤ arg) (a1 : arg ≤ 99) (c c2 : Nat) (hc : w.cell? ⟨c, 0, none⟩ = some (.pointer (some ⟨b, 0, none⟩))) (hc2 : w.cell? ⟨c2, 0, none⟩ = some (.int .i64 arg)) (h : PAt b base d s v rc w) (hs : s.Ok 15) : Calls Tryz.prog 62 #[.pointer (some ⟨c, 0, none⟩), .pointer (some ⟨c2, 0, none⟩)] w (Ran b base d (s.ask 15 (min arg 64) 0) v w) := by
  have H := hid h
  have HO := hid hs.O
  clear h hs
  by_cases hm : 64 < arg
  · rw [show min arg 64 = 64 by omega]
    go_enter Tryz.func62, Tryz.ntmps62
    go_wp2_with fail
    go_at_call 63
    refine (pask _ _ _ H.out (by have := HO.out; omega)).mono ?_
    rintro e w1 ⟨rfl, v1, r1, k, g⟩
    have H1 := hid k
    have G := hid g
    clear k g
    go_wp2
    go_end0
    exact ⟨rfl, _, _, H1.out, G.out⟩
  · rw [show min arg 64 = arg by omega]
    go_enter Tryz.func62, Tryz.ntmps62
    go_wp2_with fail
    go_at_call 63
    refine (pask _ _ _ H.out (by have := HO.out; omega)).mono ?_
    rintro e w1 ⟨rfl, v1, r1, k, g⟩
    have H1 := hid k
    have G := hid g
    clear k g
    go_wp2
    go_end0
    exact ⟨rfl, _, _, H1.out, G.out⟩
set_option maxHeartbeats 4000000 in
theorem pcol64 (arg : Int) (c c2 : Nat) (hc : w.cell? ⟨c, 0, none⟩ = some (.pointer (some ⟨b, 0, none⟩))) (hc2 : w.cell? ⟨c2, 0, none⟩ = some (.int .i64 arg)) (h : PAt b base d s v rc w) (hs : s.Ok 15) : Calls Tryz.prog 64 #[.pointer (some ⟨c, 0, none⟩), .pointer (some ⟨c2, 0, none⟩)] w (Ran b base d (s.ask 12 arg 0) v w) := by
  have H := hid h
  have HO := hid hs.O
  clear h hs
  go_enter Tryz.func64, Tryz.ntmps64
  go_wp2_with fail
  go_at_call 63
  refine (pask _ _ _ H.out (by have := HO.out; omega)).mono ?_
  rintro e w1 ⟨rfl, v1, r1, k, g⟩
  have H1 := hid k
  have G := hid g
  clear k g
  go_wp2
  go_end0
  exact ⟨rfl, _, _, H1.out, G.out⟩
set_option maxHeartbeats 4000000 in
theorem pcol65 (arg : Int) (c c2 : Nat) (hc : w.cell? ⟨c, 0, none⟩ = some (.pointer (some ⟨b, 0, none⟩))) (hc2 : w.cell? ⟨c2, 0, none⟩ = some (.int .i64 arg)) (h : PAt b base d s v rc w) (hs : s.Ok 15) : Calls Tryz.prog 65 #[.pointer (some ⟨c, 0, none⟩), .pointer (some ⟨c2, 0, none⟩)] w (Ran b base d (s.ask 12 0 arg) v w) := by
  have H := hid h
  have HO := hid hs.O
  clear h hs
  go_enter Tryz.func65, Tryz.ntmps65
  go_wp2_with fail
  go_at_call 63
  refine (pask _ _ _ H.out (by have := HO.out; omega)).mono ?_
  rintro e w1 ⟨rfl, v1, r1, k, g⟩
  have H1 := hid k
  have G := hid g
  clear k g
  go_wp2
  go_end0
  exact ⟨rfl, _, _, H1.out, G.out⟩
set_option maxHeartbeats 4000000 in
theorem pcol66 (arg : Int) (c c2 : Nat) (hc : w.cell? ⟨c, 0, none⟩ = some (.pointer (some ⟨b, 0, none⟩))) (hc2 : w.cell? ⟨c2, 0, none⟩ = some (.int .i64 arg)) (h : PAt b base d s v rc w) (hs : s.Ok 15) : Calls Tryz.prog 66 #[.pointer (some ⟨c, 0, none⟩), .pointer (some ⟨c2, 0, none⟩)] w (Ran b base d (s.ask 13 arg 0) v w) := by
  have H := hid h
  have HO := hid hs.O
  clear h hs
  go_enter Tryz.func66, Tryz.ntmps66
  go_wp2_with fail
  go_at_call 63
  refine (pask _ _ _ H.out (by have := HO.out; omega)).mono ?_
  rintro e w1 ⟨rfl, v1, r1, k, g⟩
  have H1 := hid k
  have G := hid g
  clear k g
  go_wp2
  go_end0
  exact ⟨rfl, _, _, H1.out, G.out⟩
set_option maxHeartbeats 4000000 in
theorem pcol67 (arg : Int) (c c2 : Nat) (hc : w.cell? ⟨c, 0, none⟩ = some (.pointer (some ⟨b, 0, none⟩))) (hc2 : w.cell? ⟨c2, 0, none⟩ = some (.int .i64 arg)) (h : PAt b base d s v rc w) (hs : s.Ok 15) : Calls Tryz.prog 67 #[.pointer (some ⟨c, 0, none⟩), .pointer (some ⟨c2, 0, none⟩)] w (Ran b base d (s.ask 14 arg 0) v w) := by
  have H := hid h
  have HO := hid hs.O
  clear h hs
  go_enter Tryz.func67, Tryz.ntmps67
  go_wp2_with fail
  go_at_call 63
  refine (pask _ _ _ H.out (by have := HO.out; omega)).mono ?_
  rintro e w1 ⟨rfl, v1, r1, k, g⟩
  have H1 := hid k
  have G := hid g
  clear k g
  go_wp2
  go_end0
  exact ⟨rfl, _, _, H1.out, G.out⟩
set_option maxHeartbeats 4000000 in
theorem pcol68 (arg : Int) (a0 : 0 ≤ arg) (a1 : arg ≤ 99) (c c2 : Nat) (hc : w.cell? ⟨c, 0, none⟩ = some (.pointer (some ⟨b, 0, none⟩))) (hc2 : w.cell? ⟨c2, 0, none⟩ = some (.int .i64 arg)) (h : PAt b base d s v rc w) (hs : s.Ok 15) : Calls Tryz.prog 68 #[.pointer (some ⟨c, 0, none⟩), .pointer (some ⟨c2, 0, none⟩)] w (Ran b base d (s.ask 16 (4 * min arg 64) 0) v w) := by
  have H := hid h
  have HO := hid hs.O
  clear h hs
  by_cases hm : 64 < arg
  · rw [show min arg 64 = 64 by omega]
    go_enter Tryz.func68, Tryz.ntmps68
    go_wp2_with fail
    go_at_call 63
    refine (pask _ _ _ H.out (by have := HO.out; omega)).mono ?_
    rintro e w1 ⟨rfl, v1, r1, k, g⟩
    have H1 := hid k
    have G := hid g
    clear k g
    go_wp2
    go_end0
    exact ⟨rfl, _, _, H1.out, G.out⟩
  · rw [show min arg 64 = arg by omega]
    go_enter Tryz.func68, Tryz.ntmps68
    go_wp2_with fail
    go_at_call 63
    refine (pask _ _ _ H.out (by have := HO.out; omega)).mono ?_
    rintro e w1 ⟨rfl, v1, r1, k, g⟩
    have H1 := hid k
    have G := hid g
    clear k g
    go_wp2
    go_end0
    exact ⟨rfl, _, _, H1.out, G.out⟩
set_option maxHeartbeats 4000000 in
theorem pcol73 (arg : Int) (a0 : 0 ≤ arg) (a1 : arg ≤ 99) (c c2 : Nat) (hc : w.cell? ⟨c, 0, none⟩ = some (.pointer (some ⟨b, 0, none⟩))) (hc2 : w.cell? ⟨c2, 0, none⟩ = some (.int .i64 arg)) (h : PAt b base d s v rc w) (hs : s.Ok 15) : Calls Tryz.prog 73 #[.pointer (some ⟨c, 0, none⟩), .pointer (some ⟨c2, 0, none⟩)] w (Ran b base d (s.ask 3 (4 * arg) 0) v w) := by
  have H := hid h
  have HO := hid hs.O
  clear h hs
  go_enter Tryz.func73, Tryz.ntmps73
  go_wp2_with fail
  go_at_call 63
  refine (pask _ _ _ H.out (by have := HO.out; omega)).mono ?_
  rintro e w1 ⟨rfl, v1, r1, k, g⟩
  have H1 := hid k
  have G := hid g
  clear k g
  go_wp2
  go_end0
  exact ⟨rfl, _, _, H1.out, G.out⟩
set_option maxHeartbeats 4000000 in
theorem pcol74 (arg : Int) (a0 : 0 ≤ arg) (a1 : arg ≤ 99) (c c2 : Nat) (hc : w.cell? ⟨c, 0, none⟩ = some (.pointer (some ⟨b, 0, none⟩))) (hc2 : w.cell? ⟨c2, 0, none⟩ = some (.int .i64 arg)) (h : PAt b base d s v rc w) (hs : s.Ok 15) : Calls Tryz.prog 74 #[.pointer (some ⟨c, 0, none⟩), .pointer (some ⟨c2, 0, none⟩)] w (Ran b base d (s.ask 2 (4 * arg) 0) v w) := by
  have H := hid h
  have HO := hid hs.O
  clear h hs
  go_enter Tryz.func74, Tryz.ntmps74
  go_wp2_with fail
  go_at_call 63
  refine (pask _ _ _ H.out (by have := HO.out; omega)).mono ?_
  rintro e w1 ⟨rfl, v1, r1, k, g⟩
  have H1 := hid k
  have G := hid g
  clear k g
  go_wp2
  go_end0
  exact ⟨rfl, _, _, H1.out, G.out⟩
theorem run_colT0 (w : World) : (Instr.index 79 (.agg #[.int .i64 0, .int .i64 1, .int .i64 4, .int .i64 8, .int .i64 16, .int .i64 32, .int .i64 64, .int .i64 96, .int .i64 128, .int .i64 255]) (.int .i64 0)).run Tryz.prog w = .ok (.int .i64 (colT 0)) w := by kernel_rfl
theorem run_colT1 (w : World) : (Instr.index 79 (.agg #[.int .i64 0, .int .i64 1, .int .i64 4, .int .i64 8, .int .i64 16, .int .i64 32, .int .i64 64, .int .i64 96, .int .i64 128, .int .i64 255]) (.int .i64 1)).run Tryz.prog w = .ok (.int .i64 (colT 1)) w := by kernel_rfl
theorem run_colT2 (w : World) : (Instr.index 79 (.agg #[.int .i64 0, .int .i64 1, .int .i64 4, .int .i64 8, .int .i64 16, .int .i64 32, .int .i64 64, .int .i64 96, .int .i64 128, .int .i64 255]) (.int .i64 2)).run Tryz.prog w = .ok (.int .i64 (colT 2)) w := by kernel_rfl
theorem run_colT3 (w : World) : (Instr.index 79 (.agg #[.int .i64 0, .int .i64 1, .int .i64 4, .int .i64 8, .int .i64 16, .int .i64 32, .int .i64 64, .int .i64 96, .int .i64 128, .int .i64 255]) (.int .i64 3)).run Tryz.prog w = .ok (.int .i64 (colT 3)) w := by kernel_rfl
theorem run_colT4 (w : World) : (Instr.index 79 (.agg #[.int .i64 0, .int .i64 1, .int .i64 4, .int .i64 8, .int .i64 16, .int .i64 32, .int .i64 64, .int .i64 96, .int .i64 128, .int .i64 255]) (.int .i64 4)).run Tryz.prog w = .ok (.int .i64 (colT 4)) w := by kernel_rfl
theorem run_colT5 (w : World) : (Instr.index 79 (.agg #[.int .i64 0, .int .i64 1, .int .i64 4, .int .i64 8, .int .i64 16, .int .i64 32, .int .i64 64, .int .i64 96, .int .i64 128, .int .i64 255]) (.int .i64 5)).run Tryz.prog w = .ok (.int .i64 (colT 5)) w := by kernel_rfl
theorem run_colT6 (w : World) : (Instr.index 79 (.agg #[.int .i64 0, .int .i64 1, .int .i64 4, .int .i64 8, .int .i64 16, .int .i64 32, .int .i64 64, .int .i64 96, .int .i64 128, .int .i64 255]) (.int .i64 6)).run Tryz.prog w = .ok (.int .i64 (colT 6)) w := by kernel_rfl
theorem run_colT7 (w : World) : (Instr.index 79 (.agg #[.int .i64 0, .int .i64 1, .int .i64 4, .int .i64 8, .int .i64 16, .int .i64 32, .int .i64 64, .int .i64 96, .int .i64 128, .int .i64 255]) (.int .i64 7)).run Tryz.prog w = .ok (.int .i64 (colT 7)) w := by kernel_rfl
theorem run_colT8 (w : World) : (Instr.index 79 (.agg #[.int .i64 0, .int .i64 1, .int .i64 4, .int .i64 8, .int .i64 16, .int .i64 32, .int .i64 64, .int .i64 96, .int .i64 128, .int .i64 255]) (.int .i64 8)).run Tryz.prog w = .ok (.int .i64 (colT 8)) w := by kernel_rfl
theorem run_colT9 (w : World) : (Instr.index 79 (.agg #[.int .i64 0, .int .i64 1, .int .i64 4, .int .i64 8, .int .i64 16, .int .i64 32, .int .i64 64, .int .i64 96, .int .i64 128, .int .i64 255]) (.int .i64 9)).run Tryz.prog w = .ok (.int .i64 (colT 9)) w := by kernel_rfl
theorem run_colT (i : Int) (h0 : 0 ≤ i) (h1 : i ≤ 9) (w : World) : (Instr.index 79 (.agg #[.int .i64 0, .int .i64 1, .int .i64 4, .int .i64 8, .int .i64 16, .int .i64 32, .int .i64 64, .int .i64 96, .int .i64 128, .int .i64 255]) (.int .i64 i)).run Tryz.prog w = .ok (.int .i64 (colT i)) w := by
  have h : i = 0 ∨ i = 1 ∨ i = 2 ∨ i = 3 ∨ i = 4 ∨ i = 5 ∨ i = 6 ∨ i = 7 ∨ i = 8 ∨ i = 9 := by omega
  rcases h with rfl | rfl | rfl | rfl | rfl | rfl | rfl | rfl | rfl | rfl
  · exact run_colT0 w
  · exact run_colT1 w
  · exact run_colT2 w
  · exact run_colT3 w
  · exact run_colT4 w
  · exact run_colT5 w
  · exact run_colT6 w
  · exact run_colT7 w
  · exact run_colT8 w
  · exact run_colT9 w
theorem St.whole_O (s : St) (k : Nat) : (s.whole k).O = s.O := (St.whole_M s k).2
theorem St.halves_O (s : St) (k : Nat) : (s.halves k).O = s.O := rfl
set_option maxHeartbeats 4000000 in
theorem pcol69f (arg : Int) (a0 : 0 ≤ arg) (a1 : arg ≤ 99) (c c2 c3 : Nat) (hc : One p w c (.pointer (some ⟨b, 0, none⟩))) (hc2 : One p w c2 (.int .i64 arg)) (hc3 : One p w c3 (.bool true)) (A : Apart p b v w) (h : PAt b base d s v rc w) (hs : s.Ok 15) : Calls Tryz.prog 69 #[.pointer (some ⟨c3, 0, none⟩), .pointer (some ⟨c, 0, none⟩), .pointer (some ⟨c2, 0, none⟩)] w (Ran b base d (((s.put (16 * min arg 15)).whole 1).ask 8 ((s.put (16 * min arg 15)).whole 1).p 0) v w) := by
  have q1 := one_cell hc
  have q2 := one_cell hc2
  have q3 := one_cell hc3
  have H := hid h
  have HO := hid hs.O
  have HS := hid hs
  have C1 := hid hc
  have C2 := hid hc2
  have C3 := hid hc3
  have HA := hid A
  clear h hs hc hc2 hc3 A
  by_cases hm : 15 < arg
  · rw [show 16 * min arg 15 = 240 by omega]
    have OK : Hid ((s.put (240)).Ok 15) := hid (HS.out.put (by omega) (by omega))
    go_enter Tryz.func69, Tryz.ntmps69
    go_wp2_with fail
    go_at_call 53
    refine (pput (240) H.out (by omega) (by omega)).mono ?_
    rintro e w1 ⟨rfl, v1, r1, k, g0⟩
    have g := g0
    replace q1 := one_cell (C1.out.keep (HA.out.same g))
    replace q2 := one_cell (C2.out.keep (HA.out.same g))
    replace q3 := one_cell (C3.out.keep (HA.out.same g))
    have G := hid g
    have HA1 := hid (HA.out.step g)
    replace C1 := hid (C1.out.keep (HA.out.same g))
    replace H := hid k
    clear k g g0
    go_wp2_with fail
    go_at_call 70
    refine (pwhole 1 (by omega) H.out OK.out).mono ?_
    rintro e w2 ⟨rfl, v2, r2, k, g⟩
    replace q1 := one_cell (C1.out.keep (HA1.out.same g))
    have cp := k.cp
    replace G := hid (G.out.trans g)
    replace H := hid k
    clear k g
    go_wp2
    go_still_tail 5, (by kernel_rfl)
    change wpList _ _ _ _ _ w2.drew
    replace H := hid H.out.drew
    go_wp2_with fail
    go_at_call 63
    refine (pask _ _ _ H.out (by have := HO.out; have e := (St.whole_O (s.put (240)) 1); rw [e]; show s.O.length ≤ 45; omega)).mono ?_
    rintro e w3 ⟨rfl, v3, r3, k, g⟩
    replace G := hid (G.out.trans g.drewl)
    replace H := hid k
    clear k g
    go_wp2
    go_end0
    exact ⟨rfl, _, _, H.out, G.out⟩
  · rw [show min arg 15 = arg by omega]
    have OK : Hid ((s.put (16 * arg)).Ok 15) := hid (HS.out.put (by omega) (by omega))
    go_enter Tryz.func69, Tryz.ntmps69
    go_wp2_with fail
    go_at_call 53
    refine (pput (16 * arg) H.out (by omega) (by omega)).mono ?_
    rintro e w1 ⟨rfl, v1, r1, k, g0⟩
    have g := g0
    replace q1 := one_cell (C1.out.keep (HA.out.same g))
    replace q2 := one_cell (C2.out.keep (HA.out.same g))
    replace q3 := one_cell (C3.out.keep (HA.out.same g))
    have G := hid g
    have HA1 := hid (HA.out.step g)
    replace C1 := hid (C1.out.keep (HA.out.same g))
    replace H := hid k
    clear k g g0
    go_wp2_with fail
    go_at_call 70
    refine (pwhole 1 (by omega) H.out OK.out).mono ?_
    rintro e w2 ⟨rfl, v2, r2, k, g⟩
    replace q1 := one_cell (C1.out.keep (HA1.out.same g))
    have cp := k.cp
    replace G := hid (G.out.trans g)
    replace H := hid k
    clear k g
    go_wp2
    go_still_tail 5, (by kernel_rfl)
    change wpList _ _ _ _ _ w2.drew
    replace H := hid H.out.drew
    go_wp2_with fail
    go_at_call 63
    refine (pask _ _ _ H.out (by have := HO.out; have e := (St.whole_O (s.put (16 * arg)) 1); rw [e]; show s.O.length ≤ 45; omega)).mono ?_
    rintro e w3 ⟨rfl, v3, r3, k, g⟩
    replace G := hid (G.out.trans g.drewl)
    replace H := hid k
    clear k g
    go_wp2
    go_end0
    exact ⟨rfl, _, _, H.out, G.out⟩
set_option maxHeartbeats 4000000 in
theorem pcol69n (arg : Int) (a0 : 0 ≤ arg) (a1 : arg ≤ 99) (c c2 c3 : Nat) (hc : One p w c (.pointer (some ⟨b, 0, none⟩))) (hc2 : One p w c2 (.int .i64 arg)) (hc3 : One p w c3 (.bool false)) (A : Apart p b v w) (h : PAt b base d s v rc w) (hs : s.Ok 15) : Calls Tryz.prog 69 #[.pointer (some ⟨c3, 0, none⟩), .pointer (some ⟨c, 0, none⟩), .pointer (some ⟨c2, 0, none⟩)] w (Ran b base d (((s.put (colT (min arg 9))).whole 2).ask 8 ((s.put (colT (min arg 9))).whole 2).p 0) v w) := by
  have q1 := one_cell hc
  have q2 := one_cell hc2
  have q3 := one_cell hc3
  have H := hid h
  have HO := hid hs.O
  have HS := hid hs
  have C1 := hid hc
  have C2 := hid hc2
  have C3 := hid hc3
  have HA := hid A
  clear h hs hc hc2 hc3 A
  by_cases hm : 9 < arg
  · rw [show min arg 9 = 9 by omega]
    have HT := hid (colT_range (9))
    have hix := run_colT (9) (by omega) (by omega)
    have hix2 := fun w : World => (show (Instr.index 79 (.agg #[.int .i64 0, .int .i64 1, .int .i64 4, .int .i64 8, .int .i64 16, .int .i64 32, .int .i64 64, .int .i64 96, .int .i64 128, .int .i64 255]) (.int .i64 (if 9 < arg then 9 else arg))).run Tryz.prog w = .ok (.int .i64 (colT (9))) w from by rw [show (if 9 < arg then 9 else arg) = 9 by split <;> omega]; exact run_colT (9) (by omega) (by omega) w)
    have OK : Hid ((s.put (colT (9))).Ok 15) := hid (HS.out.put HT.out.1 HT.out.2)
    go_enter Tryz.func69, Tryz.ntmps69
    go_wp2
    go_still_tail 5, (by kernel_rfl)
    change wpList _ _ _ _ _ w.drew
    replace H := hid H.out.drew
    go_wp2_with fail
    go_at_call 53
    refine (pput (colT (9)) H.out HT.out.1 HT.out.2).mono ?_
    rintro e w1 ⟨rfl, v1, r1, k, g0⟩
    have g := g0.drewl
    replace q1 := one_cell (C1.out.keep (HA.out.same g))
    replace q2 := one_cell (C2.out.keep (HA.out.same g))
    replace q3 := one_cell (C3.out.keep (HA.out.same g))
    have G := hid g
    have HA1 := hid (HA.out.step g)
    replace C1 := hid (C1.out.keep (HA.out.same g))
    replace H := hid k
    clear k g g0
    go_wp2_with fail
    go_at_call 70
    refine (pwhole 2 (by omega) H.out OK.out).mono ?_
    rintro e w2 ⟨rfl, v2, r2, k, g⟩
    replace q1 := one_cell (C1.out.keep (HA1.out.same g))
    have cp := k.cp
    replace G := hid (G.out.trans g)
    replace H := hid k
    clear k g
    go_wp2
    go_still_tail 5, (by kernel_rfl)
    change wpList _ _ _ _ _ w2.drew
    replace H := hid H.out.drew
    go_wp2_with fail
    go_at_call 63
    refine (pask _ _ _ H.out (by have := HO.out; have e := (St.whole_O (s.put (colT (9))) 2); rw [e]; show s.O.length ≤ 45; omega)).mono ?_
    rintro e w3 ⟨rfl, v3, r3, k, g⟩
    replace G := hid (G.out.trans g.drewl)
    replace H := hid k
    clear k g
    go_wp2
    go_end0
    exact ⟨rfl, _, _, H.out, G.out⟩
  · rw [show min arg 9 = arg by omega]
    have HT := hid (colT_range (arg))
    have hix := run_colT (arg) (by omega) (by omega)
    have hix2 := fun w : World => (show (Instr.index 79 (.agg #[.int .i64 0, .int .i64 1, .int .i64 4, .int .i64 8, .int .i64 16, .int .i64 32, .int .i64 64, .int .i64 96, .int .i64 128, .int .i64 255]) (.int .i64 (if 9 < arg then 9 else arg))).run Tryz.prog w = .ok (.int .i64 (colT (arg))) w from by rw [show (if 9 < arg then 9 else arg) = arg by split <;> omega]; exact run_colT (arg) (by omega) (by omega) w)
    have OK : Hid ((s.put (colT (arg))).Ok 15) := hid (HS.out.put HT.out.1 HT.out.2)
    go_enter Tryz.func69, Tryz.ntmps69
    go_wp2
    go_still_tail 5, (by kernel_rfl)
    change wpList _ _ _ _ _ w.drew
    replace H := hid H.out.drew
    go_wp2_with fail
    go_at_call 53
    refine (pput (colT (arg)) H.out HT.out.1 HT.out.2).mono ?_
    rintro e w1 ⟨rfl, v1, r1, k, g0⟩
    have g := g0.drewl
    replace q1 := one_cell (C1.out.keep (HA.out.same g))
    replace q2 := one_cell (C2.out.keep (HA.out.same g))
    replace q3 := one_cell (C3.out.keep (HA.out.same g))
    have G := hid g
    have HA1 := hid (HA.out.step g)
    replace C1 := hid (C1.out.keep (HA.out.same g))
    replace H := hid k
    clear k g g0
    go_wp2_with fail
    go_at_call 70
    refine (pwhole 2 (by omega) H.out OK.out).mono ?_
    rintro e w2 ⟨rfl, v2, r2, k, g⟩
    replace q1 := one_cell (C1.out.keep (HA1.out.same g))
    have cp := k.cp
    replace G := hid (G.out.trans g)
    replace H := hid k
    clear k g
    go_wp2
    go_still_tail 5, (by kernel_rfl)
    change wpList _ _ _ _ _ w2.drew
    replace H := hid H.out.drew
    go_wp2_with fail
    go_at_call 63
    refine (pask _ _ _ H.out (by have := HO.out; have e := (St.whole_O (s.put (colT (arg))) 2); rw [e]; show s.O.length ≤ 45; omega)).mono ?_
    rintro e w3 ⟨rfl, v3, r3, k, g⟩
    replace G := hid (G.out.trans g.drewl)
    replace H := hid k
    clear k g
    go_wp2
    go_end0
    exact ⟨rfl, _, _, H.out, G.out⟩
set_option maxHeartbeats 4000000 in
theorem pcol71f (arg : Int) (a0 : 0 ≤ arg) (a1 : arg ≤ 99) (c c2 c3 : Nat) (hc : One p w c (.pointer (some ⟨b, 0, none⟩))) (hc2 : One p w c2 (.int .i64 arg)) (hc3 : One p w c3 (.bool true)) (A : Apart p b v w) (h : PAt b base d s v rc w) (hs : s.Ok 15) : Calls Tryz.prog 71 #[.pointer (some ⟨c, 0, none⟩), .pointer (some ⟨c2, 0, none⟩), .pointer (some ⟨c3, 0, none⟩)] w (Ran b base d (((s.put (min arg 15)).halves 2).ask 9 ((s.put (min arg 15)).halves 2).h ((s.put (min arg 15)).halves 2).l) v w) := by
  have q1 := one_cell hc
  have q2 := one_cell hc2
  have q3 := one_cell hc3
  have H := hid h
  have HO := hid hs.O
  have HS := hid hs
  have C1 := hid hc
  have C2 := hid hc2
  have C3 := hid hc3
  have HA := hid A
  clear h hs hc hc2 hc3 A
  by_cases hm : 15 < arg
  · rw [show min arg 15 = 15 by omega]
    have OK : Hid ((s.put (15)).Ok 15) := hid (HS.out.put (by omega) (by omega))
    go_enter Tryz.func71, Tryz.ntmps71
    go_wp2_with fail
    go_at_call 53
    refine (pput (15) H.out (by omega) (by omega)).mono ?_
    rintro e w1 ⟨rfl, v1, r1, k, g0⟩
    have g := g0
    replace q1 := one_cell (C1.out.keep (HA.out.same g))
    replace q2 := one_cell (C2.out.keep (HA.out.same g))
    replace q3 := one_cell (C3.out.keep (HA.out.same g))
    have G := hid g
    have HA1 := hid (HA.out.step g)
    replace C1 := hid (C1.out.keep (HA.out.same g))
    replace H := hid k
    clear k g g0
    go_wp2_with fail
    go_at_call 72
    refine (phalves 2 (by omega) H.out OK.out).mono ?_
    rintro e w2 ⟨rfl, v2, r2, k, g⟩
    replace q1 := one_cell (C1.out.keep (HA1.out.same g))
    have ch := k.ch
    have cl := k.cl
    replace G := hid (G.out.trans g)
    replace H := hid k
    clear k g
    go_wp2
    go_still_tail 9, (by kernel_rfl)
    change wpList _ _ _ _ _ w2.drew
    replace H := hid H.out.drew
    go_wp2_with fail
    go_at_call 63
    refine (pask _ _ _ H.out (by have := HO.out; have e := (St.halves_O (s.put (15)) 2); rw [e]; show s.O.length ≤ 45; omega)).mono ?_
    rintro e w3 ⟨rfl, v3, r3, k, g⟩
    replace G := hid (G.out.trans g.drewl)
    replace H := hid k
    clear k g
    go_wp2
    go_end0
    exact ⟨rfl, _, _, H.out, G.out⟩
  · rw [show min arg 15 = arg by omega]
    have OK : Hid ((s.put (arg)).Ok 15) := hid (HS.out.put (by omega) (by omega))
    go_enter Tryz.func71, Tryz.ntmps71
    go_wp2_with fail
    go_at_call 53
    refine (pput (arg) H.out (by omega) (by omega)).mono ?_
    rintro e w1 ⟨rfl, v1, r1, k, g0⟩
    have g := g0
    replace q1 := one_cell (C1.out.keep (HA.out.same g))
    replace q2 := one_cell (C2.out.keep (HA.out.same g))
    replace q3 := one_cell (C3.out.keep (HA.out.same g))
    have G := hid g
    have HA1 := hid (HA.out.step g)
    replace C1 := hid (C1.out.keep (HA.out.same g))
    replace H := hid k
    clear k g g0
    go_wp2_with fail
    go_at_call 72
    refine (phalves 2 (by omega) H.out OK.out).mono ?_
    rintro e w2 ⟨rfl, v2, r2, k, g⟩
    replace q1 := one_cell (C1.out.keep (HA1.out.same g))
    have ch := k.ch
    have cl := k.cl
    replace G := hid (G.out.trans g)
    replace H := hid k
    clear k g
    go_wp2
    go_still_tail 9, (by kernel_rfl)
    change wpList _ _ _ _ _ w2.drew
    replace H := hid H.out.drew
    go_wp2_with fail
    go_at_call 63
    refine (pask _ _ _ H.out (by have := HO.out; have e := (St.halves_O (s.put (arg)) 2); rw [e]; show s.O.length ≤ 45; omega)).mono ?_
    rintro e w3 ⟨rfl, v3, r3, k, g⟩
    replace G := hid (G.out.trans g.drewl)
    replace H := hid k
    clear k g
    go_wp2
    go_end0
    exact ⟨rfl, _, _, H.out, G.out⟩
set_option maxHeartbeats 4000000 in
theorem pcol71n (arg : Int) (a0 : 0 ≤ arg) (a1 : arg ≤ 99) (c c2 c3 : Nat) (hc : One p w c (.pointer (some ⟨b, 0, none⟩))) (hc2 : One p w c2 (.int .i64 arg)) (hc3 : One p w c3 (.bool false)) (A : Apart p b v w) (h : PAt b base d s v rc w) (hs : s.Ok 15) : Calls Tryz.prog 71 #[.pointer (some ⟨c, 0, none⟩), .pointer (some ⟨c2, 0, none⟩), .pointer (some ⟨c3, 0, none⟩)] w (Ran b base d (((s.put (min arg 15)).halves 3).ask 9 ((s.put (min arg 15)).halves 3).h ((s.put (min arg 15)).halves 3).l) v w) := by
  have q1 := one_cell hc
  have q2 := one_cell hc2
  have q3 := one_cell hc3
  have H := hid h
  have HO := hid hs.O
  have HS := hid hs
  have C1 := hid hc
  have C2 := hid hc2
  have C3 := hid hc3
  have HA := hid A
  clear h hs hc hc2 hc3 A
  by_cases hm : 15 < arg
  · rw [show min arg 15 = 15 by omega]
    have OK : Hid ((s.put (15)).Ok 15) := hid (HS.out.put (by omega) (by omega))
    go_enter Tryz.func71, Tryz.ntmps71
    go_wp2_with fail
    go_at_call 53
    refine (pput (15) H.out (by omega) (by omega)).mono ?_
    rintro e w1 ⟨rfl, v1, r1, k, g0⟩
    have g := g0
    replace q1 := one_cell (C1.out.keep (HA.out.same g))
    replace q2 := one_cell (C2.out.keep (HA.out.same g))
    replace q3 := one_cell (C3.out.keep (HA.out.same g))
    have G := hid g
    have HA1 := hid (HA.out.step g)
    replace C1 := hid (C1.out.keep (HA.out.same g))
    replace H := hid k
    clear k g g0
    go_wp2_with fail
    go_at_call 72
    refine (phalves 3 (by omega) H.out OK.out).mono ?_
    rintro e w2 ⟨rfl, v2, r2, k, g⟩
    replace q1 := one_cell (C1.out.keep (HA1.out.same g))
    have ch := k.ch
    have cl := k.cl
    replace G := hid (G.out.trans g)
    replace H := hid k
    clear k g
    go_wp2
    go_still_tail 9, (by kernel_rfl)
    change wpList _ _ _ _ _ w2.drew
    replace H := hid H.out.drew
    go_wp2_with fail
    go_at_call 63
    refine (pask _ _ _ H.out (by have := HO.out; have e := (St.halves_O (s.put (15)) 3); rw [e]; show s.O.length ≤ 45; omega)).mono ?_
    rintro e w3 ⟨rfl, v3, r3, k, g⟩
    replace G := hid (G.out.trans g.drewl)
    replace H := hid k
    clear k g
    go_wp2
    go_end0
    exact ⟨rfl, _, _, H.out, G.out⟩
  · rw [show min arg 15 = arg by omega]
    have OK : Hid ((s.put (arg)).Ok 15) := hid (HS.out.put (by omega) (by omega))
    go_enter Tryz.func71, Tryz.ntmps71
    go_wp2_with fail
    go_at_call 53
    refine (pput (arg) H.out (by omega) (by omega)).mono ?_
    rintro e w1 ⟨rfl, v1, r1, k, g0⟩
    have g := g0
    replace q1 := one_cell (C1.out.keep (HA.out.same g))
    replace q2 := one_cell (C2.out.keep (HA.out.same g))
    replace q3 := one_cell (C3.out.keep (HA.out.same g))
    have G := hid g
    have HA1 := hid (HA.out.step g)
    replace C1 := hid (C1.out.keep (HA.out.same g))
    replace H := hid k
    clear k g g0
    go_wp2_with fail
    go_at_call 72
    refine (phalves 3 (by omega) H.out OK.out).mono ?_
    rintro e w2 ⟨rfl, v2, r2, k, g⟩
    replace q1 := one_cell (C1.out.keep (HA1.out.same g))
    have ch := k.ch
    have cl := k.cl
    replace G := hid (G.out.trans g)
    replace H := hid k
    clear k g
    go_wp2
    go_still_tail 9, (by kernel_rfl)
    change wpList _ _ _ _ _ w2.drew
    replace H := hid H.out.drew
    go_wp2_with fail
    go_at_call 63
    refine (pask _ _ _ H.out (by have := HO.out; have e := (St.halves_O (s.put (arg)) 3); rw [e]; show s.O.length ≤ 45; omega)).mono ?_
    rintro e w3 ⟨rfl, v3, r3, k, g⟩
    replace G := hid (G.out.trans g.drewl)
    replace H := hid k
    clear k g
    go_wp2
    go_end0
    exact ⟨rfl, _, _, H.out, G.out⟩
end
end Go.Proofs.YtkpielgdfahanaaGreat
namespace Go.Proofs.YtkpielgdfahanaaGreat
open Go.RowKit Go.Maps
theorem wpList_build_to {P : Program} {ops : Array Oper} {rest : List Oper} {o : Oper} {a : Act} {w : World} {Q : Exit → Act → World → Prop} (hg : o.guard = none) (t : TypeId) (parts : Array (Nat × Operand)) (ho : o.op = .build t parts) (cells : Array Value)
    (hf : P.built t (parts.map fun (i, x) => (i, a.eval x)).toList = some cells) (h : wpList P ops Q rest (a.put o.dst (.agg cells)) w) : wpList P ops Q (o :: rest) a w :=
  wpList_build hg t parts ho (by rw [hf]; rfl) (by rw [hf]; exact h)
def colF (c0 c1 c2 : Nat) : Array Value := #[.nilFunc, .func (.func 62) #[] #[.pointer (some ⟨c0, 0, none⟩), .pointer (some ⟨c1, 0, none⟩)], .func (.func 64) #[] #[.pointer (some ⟨c0, 0, none⟩), .pointer (some ⟨c1, 0, none⟩)], .func (.func 65) #[] #[.pointer (some ⟨c0, 0, none⟩), .pointer (some ⟨c1, 0, none⟩)], .func (.func 66) #[] #[.pointer (some ⟨c0, 0, none⟩), .pointer (some ⟨c1, 0, none⟩)], .func (.func 67) #[] #[.pointer (some ⟨c0, 0, none⟩), .pointer (some ⟨c1, 0, none⟩)], .func (.func 68) #[] #[.pointer (some ⟨c0, 0, none⟩), .pointer (some ⟨c1, 0, none⟩)], .func (.func 69) #[] #[.pointer (some ⟨c2, 0, none⟩), .pointer (some ⟨c0, 0, none⟩), .pointer (some ⟨c1, 0, none⟩)], .func (.func 71) #[] #[.pointer (some ⟨c0, 0, none⟩), .pointer (some ⟨c1, 0, none⟩), .pointer (some ⟨c2, 0, none⟩)], .func (.func 73) #[] #[.pointer (some ⟨c0, 0, none⟩), .pointer (some ⟨c1, 0, none⟩)], .func (.func 74) #[] #[.pointer (some ⟨c0, 0, none⟩), .pointer (some ⟨c1, 0, none⟩)]]
theorem run_colF1 (c0 c1 c2 : Nat) (w : World) : (Instr.index 80 (.agg (colF c0 c1 c2)) (.int .i64 1)).run Tryz.prog w = .ok (.func (.func 62) #[] #[.pointer (some ⟨c0, 0, none⟩), .pointer (some ⟨c1, 0, none⟩)]) w := by kernel_rfl
theorem run_colF2 (c0 c1 c2 : Nat) (w : World) : (Instr.index 80 (.agg (colF c0 c1 c2)) (.int .i64 2)).run Tryz.prog w = .ok (.func (.func 64) #[] #[.pointer (some ⟨c0, 0, none⟩), .pointer (some ⟨c1, 0, none⟩)]) w := by kernel_rfl
theorem run_colF3 (c0 c1 c2 : Nat) (w : World) : (Instr.index 80 (.agg (colF c0 c1 c2)) (.int .i64 3)).run Tryz.prog w = .ok (.func (.func 65) #[] #[.pointer (some ⟨c0, 0, none⟩), .pointer (some ⟨c1, 0, none⟩)]) w := by kernel_rfl
theorem run_colF4 (c0 c1 c2 : Nat) (w : World) : (Instr.index 80 (.agg (colF c0 c1 c2)) (.int .i64 4)).run Tryz.prog w = .ok (.func (.func 66) #[] #[.pointer (some ⟨c0, 0, none⟩), .pointer (some ⟨c1, 0, none⟩)]) w := by kernel_rfl
theorem run_colF5 (c0 c1 c2 : Nat) (w : World) : (Instr.index 80 (.agg (colF c0 c1 c2)) (.int .i64 5)).run Tryz.prog w = .ok (.func (.func 67) #[] #[.pointer (some ⟨c0, 0, none⟩), .pointer (some ⟨c1, 0, none⟩)]) w := by kernel_rfl
theorem run_colF6 (c0 c1 c2 : Nat) (w : World) : (Instr.index 80 (.agg (colF c0 c1 c2)) (.int .i64 6)).run Tryz.prog w = .ok (.func (.func 68) #[] #[.pointer (some ⟨c0, 0, none⟩), .pointer (some ⟨c1, 0, none⟩)]) w := by kernel_rfl
theorem run_colF7 (c0 c1 c2 : Nat) (w : World) : (Instr.index 80 (.agg (colF c0 c1 c2)) (.int .i64 7)).run Tryz.prog w = .ok (.func (.func 69) #[] #[.pointer (some ⟨c2, 0, none⟩), .pointer (some ⟨c0, 0, none⟩), .pointer (some ⟨c1, 0, none⟩)]) w := by kernel_rfl
theorem run_colF8 (c0 c1 c2 : Nat) (w : World) : (Instr.index 80 (.agg (colF c0 c1 c2)) (.int .i64 8)).run Tryz.prog w = .ok (.func (.func 71) #[] #[.pointer (some ⟨c0, 0, none⟩), .pointer (some ⟨c1, 0, none⟩), .pointer (some ⟨c2, 0, none⟩)]) w := by kernel_rfl
theorem run_colF9 (c0 c1 c2 : Nat) (w : World) : (Instr.index 80 (.agg (colF c0 c1 c2)) (.int .i64 9)).run Tryz.prog w = .ok (.func (.func 73) #[] #[.pointer (some ⟨c0, 0, none⟩), .pointer (some ⟨c1, 0, none⟩)]) w := by kernel_rfl
theorem run_colF10 (c0 c1 c2 : Nat) (w : World) : (Instr.index 80 (.agg (colF c0 c1 c2)) (.int .i64 10)).run Tryz.prog w = .ok (.func (.func 74) #[] #[.pointer (some ⟨c0, 0, none⟩), .pointer (some ⟨c1, 0, none⟩)]) w := by kernel_rfl

theorem run_mk (fn : Fn) (first cap : Array Value) (w : World) : (Instr.makeFunc fn first cap).run Tryz.prog w = .ok (.func fn first cap) w := rfl
section
variable {b base : Nat} {d : Int} {s : St} {v : Value} {rc : Bool} {w : World}
/-- The three captured variables of a column. -/
structure Cap (b : Nat) (fast : Bool) (arg : Int) (c0 c1 c2 : Nat) (v : Value) (w : World) : Prop where
  p : Apart (fun c => c = c0 ∨ c = c1 ∨ c = c2) b v w
  u0 : One (fun c => c = c0 ∨ c = c1 ∨ c = c2) w c0 (.pointer (some ⟨b, 0, none⟩))
  u1 : One (fun c => c = c0 ∨ c = c1 ∨ c = c2) w c1 (.int .i64 arg)
  u2 : One (fun c => c = c0 ∨ c = c1 ∨ c = c2) w c2 (.bool fast)
theorem PAt.later {w' : World} (h : PAt b base d s v rc w) (hb : Below w.heap.size w w') : PAt b base d s v rc w' :=
  ⟨h.len, ⟨h.asks.at_.keep (hb.block _ h.asks.at_.lt), h.asks.own.kept (below_grown hb) (by cases v.ownBlock; exact Or.inl rfl; exact Or.inr (by simp)), h.asks.ne⟩, h.base⟩
theorem Steps.below (b : Nat) (v : Value) {w w1 : World} (hb : Below w.heap.size w w1) : Steps b v v w w1 := Steps.grown (Steps.refl b v w) ⟨hb.os, hb.tape, hb.output, hb.size, fun i hi _ => hb.block i hi⟩
theorem PAt.own_lt (h : PAt b base d s v rc w) {g : Nat} (hg : v.ownBlock = some g) : g < w.heap.size := by
  exact (h.asks.own.lt g hg).2
theorem Cap.mk3 (h : PAt b base d s v rc w) (fast : Bool) (arg : Int) (t0 t1 t2 : TypeId) :
    Cap b fast arg w.heap.size (w.heap.size + 1) (w.heap.size + 1 + 1) v (((w.alloc (.cells #[.pointer (some ⟨b, 0, none⟩)] t0)).alloc (.cells #[.int .i64 arg] t1)).alloc (.cells #[.bool fast] t2)) := by
  have hl := h.asks.at_.lt
  have hz : (((w.alloc (.cells #[.pointer (some ⟨b, 0, none⟩)] t0)).alloc (.cells #[.int .i64 arg] t1)).alloc (.cells #[.bool fast] t2)).heap.size = w.heap.size + 1 + 1 + 1 := by simp
  refine ⟨fun c hc => ⟨by omega, fun e => ?_, by omega⟩, ⟨Or.inl rfl, t0, ?_⟩, ⟨Or.inr (Or.inl rfl), t1, ?_⟩, ⟨Or.inr (Or.inr rfl), t2, ?_⟩⟩
  · have := h.own_lt e; omega
  · exact ((below1 _ _).block _ (by simp; omega)).trans (((below1 _ _).block _ (by simp)).trans (heap_alloc_new w _))
  · refine ((below1 _ _).block _ (by simp)).trans ?_
    have := heap_alloc_new (w.alloc (.cells #[.pointer (some ⟨b, 0, none⟩)] t0)) (.cells #[.int .i64 arg] t1)
    simpa using this
  · have := heap_alloc_new ((w.alloc (.cells #[.pointer (some ⟨b, 0, none⟩)] t0)).alloc (.cells #[.int .i64 arg] t1)) (.cells #[.bool fast] t2)
    simpa using this
theorem pcol7 (fast : Bool) (arg : Int) (a0 : 0 ≤ arg) (a1 : arg ≤ 99) {c0 c1 c2 : Nat} (C : Cap b fast arg c0 c1 c2 v w) (h : PAt b base d s v rc w) (hs : s.Ok 15) :
    Calls Tryz.prog 69 #[.pointer (some ⟨c2, 0, none⟩), .pointer (some ⟨c0, 0, none⟩), .pointer (some ⟨c1, 0, none⟩)] w (Ran b base d (colE fast 7 arg s) v w) := by
  cases fast
  · exact pcol69n arg a0 a1 c0 c1 c2 C.u0 C.u1 C.u2 C.p h hs
  · exact pcol69f arg a0 a1 c0 c1 c2 C.u0 C.u1 C.u2 C.p h hs
theorem pcol8 (fast : Bool) (arg : Int) (a0 : 0 ≤ arg) (a1 : arg ≤ 99) {c0 c1 c2 : Nat} (C : Cap b fast arg c0 c1 c2 v w) (h : PAt b base d s v rc w) (hs : s.Ok 15) :
    Calls Tryz.prog 71 #[.pointer (some ⟨c0, 0, none⟩), .pointer (some ⟨c1, 0, none⟩), .pointer (some ⟨c2, 0, none⟩)] w (Ran b base d (colE fast 8 arg s) v w) := by
  cases fast
  · exact pcol71n arg a0 a1 c0 c1 c2 C.u0 C.u1 C.u2 C.p h hs
  · exact pcol71f arg a0 a1 c0 c1 c2 C.u0 C.u1 C.u2 C.p h hs
set_option maxHeartbeats 4000000 in
theorem pcolumn1 (fast : Bool) (hd : (d == 3) = fast) (arg : Int) (a0 : 0 ≤ arg) (a1 : arg ≤ 99) (h : PAt b base d s v rc w) (hs : s.Ok 15) : Calls Tryz.prog 50 #[.pointer (some ⟨b, 0, none⟩), .int .i64 1, .int .i64 arg] w (Ran b base d (colE fast 1 arg s) v w) := by
  have cd := h.cd
  have hbl := h.asks.at_.lt
  have H := hid h
  have HS := hid hs
  have HA := hid (And.intro a0 a1)
  have HC := hid (fun t0 t1 t2 => Cap.mk3 h fast arg t0 t1 t2)
  have hmf := run_mk
  clear h hs a0 a1
  go_enter Tryz.func50, Tryz.ntmps50
  go_upto_region 2 with (fail)
  have HC3 := hid (HC.out 66 3 4)
  have HP := hid (H.out.later (Below.grow (below2 w (.cells #[.pointer (some ⟨b, 0, none⟩)] 66) (.cells #[.int .i64 arg] 3)) (.cells #[.bool fast] 4)))
  have HB := hid (Steps.below b v (Below.grow (below2 w (.cells #[.pointer (some ⟨b, 0, none⟩)] 66) (.cells #[.int .i64 arg] 3)) (.cells #[.bool fast] 4)))
  clear HC cd hbl H
  generalize ((w.alloc (.cells #[.pointer (some ⟨b, 0, none⟩)] 66)).alloc (.cells #[.int .i64 arg] 3)).alloc (.cells #[.bool fast] 4) = w3 at *
  generalize w.heap.size + 1 + 1 = n2 at *
  generalize w.heap.size + 1 = n1 at *
  generalize w.heap.size = n0 at *
  have hix := run_colF1 n0 n1 n2
  have OK := hid HS.out
  have q0 := one_cell HC3.out.u0
  have q1 := one_cell HC3.out.u1
  have q2 := one_cell HC3.out.u2
  go_wp2_with (first | (refine wpList_build_to rfl 80 _ rfl (colF n0 n1 n2) (by kernel_rfl) ?_) | fail)
  go_at_call 62
  refine (pcol62 arg HA.out.1 HA.out.2 n0 n1 q0 q1 HP.out OK.out).mono ?_
  rintro e w4 ⟨rfl, v4, r4, k4, g4⟩
  have H4 := hid k4
  have G4 := hid g4
  clear k4 g4 hix q0 q1 q2
  go_wp2
  go_end0
  exact ⟨rfl, _, _, H4.out, HB.out.trans G4.out⟩
set_option maxHeartbeats 4000000 in
theorem pcolumn2 (fast : Bool) (hd : (d == 3) = fast) (arg : Int) (a0 : 0 ≤ arg) (a1 : arg ≤ 99) (h : PAt b base d s v rc w) (hs : s.Ok 15) : Calls Tryz.prog 50 #[.pointer (some ⟨b, 0, none⟩), .int .i64 2, .int .i64 arg] w (Ran b base d (colE fast 2 arg s) v w) := by
  have cd := h.cd
  have hbl := h.asks.at_.lt
  have H := hid h
  have HS := hid hs
  have HA := hid (And.intro a0 a1)
  have HC := hid (fun t0 t1 t2 => Cap.mk3 h fast arg t0 t1 t2)
  have hmf := run_mk
  clear h hs a0 a1
  go_enter Tryz.func50, Tryz.ntmps50
  go_upto_region 2 with (fail)
  have HC3 := hid (HC.out 66 3 4)
  have HP := hid (H.out.later (Below.grow (below2 w (.cells #[.pointer (some ⟨b, 0, none⟩)] 66) (.cells #[.int .i64 arg] 3)) (.cells #[.bool fast] 4)))
  have HB := hid (Steps.below b v (Below.grow (below2 w (.cells #[.pointer (some ⟨b, 0, none⟩)] 66) (.cells #[.int .i64 arg] 3)) (.cells #[.bool fast] 4)))
  clear HC cd hbl H
  generalize ((w.alloc (.cells #[.pointer (some ⟨b, 0, none⟩)] 66)).alloc (.cells #[.int .i64 arg] 3)).alloc (.cells #[.bool fast] 4) = w3 at *
  generalize w.heap.size + 1 + 1 = n2 at *
  generalize w.heap.size + 1 = n1 at *
  generalize w.heap.size = n0 at *
  have hix := run_colF2 n0 n1 n2
  have OK := hid HS.out
  have q0 := one_cell HC3.out.u0
  have q1 := one_cell HC3.out.u1
  have q2 := one_cell HC3.out.u2
  go_wp2_with (first | (refine wpList_build_to rfl 80 _ rfl (colF n0 n1 n2) (by kernel_rfl) ?_) | fail)
  go_at_call 64
  refine (pcol64 arg n0 n1 q0 q1 HP.out OK.out).mono ?_
  rintro e w4 ⟨rfl, v4, r4, k4, g4⟩
  have H4 := hid k4
  have G4 := hid g4
  clear k4 g4 hix q0 q1 q2
  go_wp2
  go_end0
  exact ⟨rfl, _, _, H4.out, HB.out.trans G4.out⟩
set_option maxHeartbeats 4000000 in
theorem pcolumn3 (fast : Bool) (hd : (d == 3) = fast) (arg : Int) (a0 : 0 ≤ arg) (a1 : arg ≤ 99) (h : PAt b base d s v rc w) (hs : s.Ok 15) : Calls Tryz.prog 50 #[.pointer (some ⟨b, 0, none⟩), .int .i64 3, .int .i64 arg] w (Ran b base d (colE fast 3 arg s) v w) := by
  have cd := h.cd
  have hbl := h.asks.at_.lt
  have H := hid h
  have HS := hid hs
  have HA := hid (And.intro a0 a1)
  have HC := hid (fun t0 t1 t2 => Cap.mk3 h fast arg t0 t1 t2)
  have hmf := run_mk
  clear h hs a0 a1
  go_enter Tryz.func50, Tryz.ntmps50
  go_upto_region 2 with (fail)
  have HC3 := hid (HC.out 66 3 4)
  have HP := hid (H.out.later (Below.grow (below2 w (.cells #[.pointer (some ⟨b, 0, none⟩)] 66) (.cells #[.int .i64 arg] 3)) (.cells #[.bool fast] 4)))
  have HB := hid (Steps.below b v (Below.grow (below2 w (.cells #[.pointer (some ⟨b, 0, none⟩)] 66) (.cells #[.int .i64 arg] 3)) (.cells #[.bool fast] 4)))
  clear HC cd hbl H
  generalize ((w.alloc (.cells #[.pointer (some ⟨b, 0, none⟩)] 66)).alloc (.cells #[.int .i64 arg] 3)).alloc (.cells #[.bool fast] 4) = w3 at *
  generalize w.heap.size + 1 + 1 = n2 at *
  generalize w.heap.size + 1 = n1 at *
  generalize w.heap.size = n0 at *
  have hix := run_colF3 n0 n1 n2
  have OK := hid HS.out
  have q0 := one_cell HC3.out.u0
  have q1 := one_cell HC3.out.u1
  have q2 := one_cell HC3.out.u2
  go_wp2_with (first | (refine wpList_build_to rfl 80 _ rfl (colF n0 n1 n2) (by kernel_rfl) ?_) | fail)
  go_at_call 65
  refine (pcol65 arg n0 n1 q0 q1 HP.out OK.out).mono ?_
  rintro e w4 ⟨rfl, v4, r4, k4, g4⟩
  have H4 := hid k4
  have G4 := hid g4
  clear k4 g4 hix q0 q1 q2
  go_wp2
  go_end0
  exact ⟨rfl, _, _, H4.out, HB.out.trans G4.out⟩
set_option maxHeartbeats 4000000 in
theorem pcolumn4 (fast : Bool) (hd : (d == 3) = fast) (arg : Int) (a0 : 0 ≤ arg) (a1 : arg ≤ 99) (h : PAt b base d s v rc w) (hs : s.Ok 15) : Calls Tryz.prog 50 #[.pointer (some ⟨b, 0, none⟩), .int .i64 4, .int .i64 arg] w (Ran b base d (colE fast 4 arg s) v w) := by
  have cd := h.cd
  have hbl := h.asks.at_.lt
  have H := hid h
  have HS := hid hs
  have HA := hid (And.intro a0 a1)
  have HC := hid (fun t0 t1 t2 => Cap.mk3 h fast arg t0 t1 t2)
  have hmf := run_mk
  clear h hs a0 a1
  go_enter Tryz.func50, Tryz.ntmps50
  go_upto_region 2 with (fail)
  have HC3 := hid (HC.out 66 3 4)
  have HP := hid (H.out.later (Below.grow (below2 w (.cells #[.pointer (some ⟨b, 0, none⟩)] 66) (.cells #[.int .i64 arg] 3)) (.cells #[.bool fast] 4)))
  have HB := hid (Steps.below b v (Below.grow (below2 w (.cells #[.pointer (some ⟨b, 0, none⟩)] 66) (.cells #[.int .i64 arg] 3)) (.cells #[.bool fast] 4)))
  clear HC cd hbl H
  generalize ((w.alloc (.cells #[.pointer (some ⟨b, 0, none⟩)] 66)).alloc (.cells #[.int .i64 arg] 3)).alloc (.cells #[.bool fast] 4) = w3 at *
  generalize w.heap.size + 1 + 1 = n2 at *
  generalize w.heap.size + 1 = n1 at *
  generalize w.heap.size = n0 at *
  have hix := run_colF4 n0 n1 n2
  have OK := hid HS.out
  have q0 := one_cell HC3.out.u0
  have q1 := one_cell HC3.out.u1
  have q2 := one_cell HC3.out.u2
  go_wp2_with (first | (refine wpList_build_to rfl 80 _ rfl (colF n0 n1 n2) (by kernel_rfl) ?_) | fail)
  go_at_call 66
  refine (pcol66 arg n0 n1 q0 q1 HP.out OK.out).mono ?_
  rintro e w4 ⟨rfl, v4, r4, k4, g4⟩
  have H4 := hid k4
  have G4 := hid g4
  clear k4 g4 hix q0 q1 q2
  go_wp2
  go_end0
  exact ⟨rfl, _, _, H4.out, HB.out.trans G4.out⟩
set_option maxHeartbeats 4000000 in
theorem pcolumn5 (fast : Bool) (hd : (d == 3) = fast) (arg : Int) (a0 : 0 ≤ arg) (a1 : arg ≤ 99) (h : PAt b base d s v rc w) (hs : s.Ok 15) : Calls Tryz.prog 50 #[.pointer (some ⟨b, 0, none⟩), .int .i64 5, .int .i64 arg] w (Ran b base d (colE fast 5 arg s) v w) := by
  have cd := h.cd
  have hbl := h.asks.at_.lt
  have H := hid h
  have HS := hid hs
  have HA := hid (And.intro a0 a1)
  have HC := hid (fun t0 t1 t2 => Cap.mk3 h fast arg t0 t1 t2)
  have hmf := run_mk
  clear h hs a0 a1
  go_enter Tryz.func50, Tryz.ntmps50
  go_upto_region 2 with (fail)
  have HC3 := hid (HC.out 66 3 4)
  have HP := hid (H.out.later (Below.grow (below2 w (.cells #[.pointer (some ⟨b, 0, none⟩)] 66) (.cells #[.int .i64 arg] 3)) (.cells #[.bool fast] 4)))
  have HB := hid (Steps.below b v (Below.grow (below2 w (.cells #[.pointer (some ⟨b, 0, none⟩)] 66) (.cells #[.int .i64 arg] 3)) (.cells #[.bool fast] 4)))
  clear HC cd hbl H
  generalize ((w.alloc (.cells #[.pointer (some ⟨b, 0, none⟩)] 66)).alloc (.cells #[.int .i64 arg] 3)).alloc (.cells #[.bool fast] 4) = w3 at *
  generalize w.heap.size + 1 + 1 = n2 at *
  generalize w.heap.size + 1 = n1 at *
  generalize w.heap.size = n0 at *
  have hix := run_colF5 n0 n1 n2
  have OK := hid HS.out
  have q0 := one_cell HC3.out.u0
  have q1 := one_cell HC3.out.u1
  have q2 := one_cell HC3.out.u2
  go_wp2_with (first | (refine wpList_build_to rfl 80 _ rfl (colF n0 n1 n2) (by kernel_rfl) ?_) | fail)
  go_at_call 67
  refine (pcol67 arg n0 n1 q0 q1 HP.out OK.out).mono ?_
  rintro e w4 ⟨rfl, v4, r4, k4, g4⟩
  have H4 := hid k4
  have G4 := hid g4
  clear k4 g4 hix q0 q1 q2
  go_wp2
  go_end0
  exact ⟨rfl, _, _, H4.out, HB.out.trans G4.out⟩
set_option maxHeartbeats 4000000 in
theorem pcolumn6 (fast : Bool) (hd : (d == 3) = fast) (arg : Int) (a0 : 0 ≤ arg) (a1 : arg ≤ 99) (h : PAt b base d s v rc w) (hs : s.Ok 15) : Calls Tryz.prog 50 #[.pointer (some ⟨b, 0, none⟩), .int .i64 6, .int .i64 arg] w (Ran b base d (colE fast 6 arg s) v w) := by
  have cd := h.cd
  have hbl := h.asks.at_.lt
  have H := hid h
  have HS := hid hs
  have HA := hid (And.intro a0 a1)
  have HC := hid (fun t0 t1 t2 => Cap.mk3 h fast arg t0 t1 t2)
  have hmf := run_mk
  clear h hs a0 a1
  go_enter Tryz.func50, Tryz.ntmps50
  go_upto_region 2 with (fail)
  have HC3 := hid (HC.out 66 3 4)
  have HP := hid (H.out.later (Below.grow (below2 w (.cells #[.pointer (some ⟨b, 0, none⟩)] 66) (.cells #[.int .i64 arg] 3)) (.cells #[.bool fast] 4)))
  have HB := hid (Steps.below b v (Below.grow (below2 w (.cells #[.pointer (some ⟨b, 0, none⟩)] 66) (.cells #[.int .i64 arg] 3)) (.cells #[.bool fast] 4)))
  clear HC cd hbl H
  generalize ((w.alloc (.cells #[.pointer (some ⟨b, 0, none⟩)] 66)).alloc (.cells #[.int .i64 arg] 3)).alloc (.cells #[.bool fast] 4) = w3 at *
  generalize w.heap.size + 1 + 1 = n2 at *
  generalize w.heap.size + 1 = n1 at *
  generalize w.heap.size = n0 at *
  have hix := run_colF6 n0 n1 n2
  have OK := hid HS.out
  have q0 := one_cell HC3.out.u0
  have q1 := one_cell HC3.out.u1
  have q2 := one_cell HC3.out.u2
  go_wp2_with (first | (refine wpList_build_to rfl 80 _ rfl (colF n0 n1 n2) (by kernel_rfl) ?_) | fail)
  go_at_call 68
  refine (pcol68 arg HA.out.1 HA.out.2 n0 n1 q0 q1 HP.out OK.out).mono ?_
  rintro e w4 ⟨rfl, v4, r4, k4, g4⟩
  have H4 := hid k4
  have G4 := hid g4
  clear k4 g4 hix q0 q1 q2
  go_wp2
  go_end0
  exact ⟨rfl, _, _, H4.out, HB.out.trans G4.out⟩
set_option maxHeartbeats 4000000 in
theorem pcolumn7 (fast : Bool) (hd : (d == 3) = fast) (arg : Int) (a0 : 0 ≤ arg) (a1 : arg ≤ 99) (h : PAt b base d s v rc w) (hs : s.Ok 15) : Calls Tryz.prog 50 #[.pointer (some ⟨b, 0, none⟩), .int .i64 7, .int .i64 arg] w (Ran b base d (colE fast 7 arg s) v w) := by
  have cd := h.cd
  have hbl := h.asks.at_.lt
  have H := hid h
  have HS := hid hs
  have HA := hid (And.intro a0 a1)
  have HC := hid (fun t0 t1 t2 => Cap.mk3 h fast arg t0 t1 t2)
  have hmf := run_mk
  clear h hs a0 a1
  go_enter Tryz.func50, Tryz.ntmps50
  go_upto_region 2 with (fail)
  have HC3 := hid (HC.out 66 3 4)
  have HP := hid (H.out.later (Below.grow (below2 w (.cells #[.pointer (some ⟨b, 0, none⟩)] 66) (.cells #[.int .i64 arg] 3)) (.cells #[.bool fast] 4)))
  have HB := hid (Steps.below b v (Below.grow (below2 w (.cells #[.pointer (some ⟨b, 0, none⟩)] 66) (.cells #[.int .i64 arg] 3)) (.cells #[.bool fast] 4)))
  clear HC cd hbl H
  generalize ((w.alloc (.cells #[.pointer (some ⟨b, 0, none⟩)] 66)).alloc (.cells #[.int .i64 arg] 3)).alloc (.cells #[.bool fast] 4) = w3 at *
  generalize w.heap.size + 1 + 1 = n2 at *
  generalize w.heap.size + 1 = n1 at *
  generalize w.heap.size = n0 at *
  have hix := run_colF7 n0 n1 n2
  have OK := hid HS.out
  have q0 := one_cell HC3.out.u0
  have q1 := one_cell HC3.out.u1
  have q2 := one_cell HC3.out.u2
  go_wp2_with (first | (refine wpList_build_to rfl 80 _ rfl (colF n0 n1 n2) (by kernel_rfl) ?_) | fail)
  go_at_call 69
  refine (pcol7 fast arg HA.out.1 HA.out.2 HC3.out HP.out OK.out).mono ?_
  rintro e w4 ⟨rfl, v4, r4, k4, g4⟩
  have H4 := hid k4
  have G4 := hid g4
  clear k4 g4 hix q0 q1 q2
  go_wp2
  go_end0
  exact ⟨rfl, _, _, H4.out, HB.out.trans G4.out⟩
set_option maxHeartbeats 4000000 in
theorem pcolumn8 (fast : Bool) (hd : (d == 3) = fast) (arg : Int) (a0 : 0 ≤ arg) (a1 : arg ≤ 99) (h : PAt b base d s v rc w) (hs : s.Ok 15) : Calls Tryz.prog 50 #[.pointer (some ⟨b, 0, none⟩), .int .i64 8, .int .i64 arg] w (Ran b base d (colE fast 8 arg s) v w) := by
  have cd := h.cd
  have hbl := h.asks.at_.lt
  have H := hid h
  have HS := hid hs
  have HA := hid (And.intro a0 a1)
  have HC := hid (fun t0 t1 t2 => Cap.mk3 h fast arg t0 t1 t2)
  have hmf := run_mk
  clear h hs a0 a1
  go_enter Tryz.func50, Tryz.ntmps50
  go_upto_region 2 with (fail)
  have HC3 := hid (HC.out 66 3 4)
  have HP := hid (H.out.later (Below.grow (below2 w (.cells #[.pointer (some ⟨b, 0, none⟩)] 66) (.cells #[.int .i64 arg] 3)) (.cells #[.bool fast] 4)))
  have HB := hid (Steps.below b v (Below.grow (below2 w (.cells #[.pointer (some ⟨b, 0, none⟩)] 66) (.cells #[.int .i64 arg] 3)) (.cells #[.bool fast] 4)))
  clear HC cd hbl H
  generalize ((w.alloc (.cells #[.pointer (some ⟨b, 0, none⟩)] 66)).alloc (.cells #[.int .i64 arg] 3)).alloc (.cells #[.bool fast] 4) = w3 at *
  generalize w.heap.size + 1 + 1 = n2 at *
  generalize w.heap.size + 1 = n1 at *
  generalize w.heap.size = n0 at *
  have hix := run_colF8 n0 n1 n2
  have OK := hid HS.out
  have q0 := one_cell HC3.out.u0
  have q1 := one_cell HC3.out.u1
  have q2 := one_cell HC3.out.u2
  go_wp2_with (first | (refine wpList_build_to rfl 80 _ rfl (colF n0 n1 n2) (by kernel_rfl) ?_) | fail)
  go_at_call 71
  refine (pcol8 fast arg HA.out.1 HA.out.2 HC3.out HP.out OK.out).mono ?_
  rintro e w4 ⟨rfl, v4, r4, k4, g4⟩
  have H4 := hid k4
  have G4 := hid g4
  clear k4 g4 hix q0 q1 q2
  go_wp2
  go_end0
  exact ⟨rfl, _, _, H4.out, HB.out.trans G4.out⟩
set_option maxHeartbeats 4000000 in
theorem pcolumn9 (fast : Bool) (hd : (d == 3) = fast) (arg : Int) (a0 : 0 ≤ arg) (a1 : arg ≤ 99) (h : PAt b base d s v rc w) (hs : s.Ok 15) : Calls Tryz.prog 50 #[.pointer (some ⟨b, 0, none⟩), .int .i64 9, .int .i64 arg] w (Ran b base d (colE fast 9 arg s) v w) := by
  have cd := h.cd
  have hbl := h.asks.at_.lt
  have H := hid h
  have HS := hid hs
  have HA := hid (And.intro a0 a1)
  have HC := hid (fun t0 t1 t2 => Cap.mk3 h fast arg t0 t1 t2)
  have hmf := run_mk
  clear h hs a0 a1
  go_enter Tryz.func50, Tryz.ntmps50
  go_upto_region 2 with (fail)
  have HC3 := hid (HC.out 66 3 4)
  have HP := hid (H.out.later (Below.grow (below2 w (.cells #[.pointer (some ⟨b, 0, none⟩)] 66) (.cells #[.int .i64 arg] 3)) (.cells #[.bool fast] 4)))
  have HB := hid (Steps.below b v (Below.grow (below2 w (.cells #[.pointer (some ⟨b, 0, none⟩)] 66) (.cells #[.int .i64 arg] 3)) (.cells #[.bool fast] 4)))
  clear HC cd hbl H
  generalize ((w.alloc (.cells #[.pointer (some ⟨b, 0, none⟩)] 66)).alloc (.cells #[.int .i64 arg] 3)).alloc (.cells #[.bool fast] 4) = w3 at *
  generalize w.heap.size + 1 + 1 = n2 at *
  generalize w.heap.size + 1 = n1 at *
  generalize w.heap.size = n0 at *
  have hix := run_colF9 n0 n1 n2
  have OK := hid HS.out
  have q0 := one_cell HC3.out.u0
  have q1 := one_cell HC3.out.u1
  have q2 := one_cell HC3.out.u2
  go_wp2_with (first | (refine wpList_build_to rfl 80 _ rfl (colF n0 n1 n2) (by kernel_rfl) ?_) | fail)
  go_at_call 73
  refine (pcol73 arg HA.out.1 HA.out.2 n0 n1 q0 q1 HP.out OK.out).mono ?_
  rintro e w4 ⟨rfl, v4, r4, k4, g4⟩
  have H4 := hid k4
  have G4 := hid g4
  clear k4 g4 hix q0 q1 q2
  go_wp2
  go_end0
  exact ⟨rfl, _, _, H4.out, HB.out.trans G4.out⟩
set_option maxHeartbeats 4000000 in
theorem pcolumn10 (fast : Bool) (hd : (d == 3) = fast) (arg : Int) (a0 : 0 ≤ arg) (a1 : arg ≤ 99) (h : PAt b base d s v rc w) (hs : s.Ok 15) : Calls Tryz.prog 50 #[.pointer (some ⟨b, 0, none⟩), .int .i64 10, .int .i64 arg] w (Ran b base d (colE fast 10 arg s) v w) := by
  have cd := h.cd
  have hbl := h.asks.at_.lt
  have H := hid h
  have HS := hid hs
  have HA := hid (And.intro a0 a1)
  have HC := hid (fun t0 t1 t2 => Cap.mk3 h fast arg t0 t1 t2)
  have hmf := run_mk
  clear h hs a0 a1
  go_enter Tryz.func50, Tryz.ntmps50
  go_upto_region 2 with (fail)
  have HC3 := hid (HC.out 66 3 4)
  have HP := hid (H.out.later (Below.grow (below2 w (.cells #[.pointer (some ⟨b, 0, none⟩)] 66) (.cells #[.int .i64 arg] 3)) (.cells #[.bool fast] 4)))
  have HB := hid (Steps.below b v (Below.grow (below2 w (.cells #[.pointer (some ⟨b, 0, none⟩)] 66) (.cells #[.int .i64 arg] 3)) (.cells #[.bool fast] 4)))
  clear HC cd hbl H
  generalize ((w.alloc (.cells #[.pointer (some ⟨b, 0, none⟩)] 66)).alloc (.cells #[.int .i64 arg] 3)).alloc (.cells #[.bool fast] 4) = w3 at *
  generalize w.heap.size + 1 + 1 = n2 at *
  generalize w.heap.size + 1 = n1 at *
  generalize w.heap.size = n0 at *
  have hix := run_colF10 n0 n1 n2
  have OK := hid HS.out
  have q0 := one_cell HC3.out.u0
  have q1 := one_cell HC3.out.u1
  have q2 := one_cell HC3.out.u2
  go_wp2_with (first | (refine wpList_build_to rfl 80 _ rfl (colF n0 n1 n2) (by kernel_rfl) ?_) | fail)
  go_at_call 74
  refine (pcol74 arg HA.out.1 HA.out.2 n0 n1 q0 q1 HP.out OK.out).mono ?_
  rintro e w4 ⟨rfl, v4, r4, k4, g4⟩
  have H4 := hid k4
  have G4 := hid g4
  clear k4 g4 hix q0 q1 q2
  go_wp2
  go_end0
  exact ⟨rfl, _, _, H4.out, HB.out.trans G4.out⟩
theorem pcolumn (fast : Bool) (hd : (d == 3) = fast) (cmd arg : Int) (m0 : 1 ≤ cmd) (m1 : cmd ≤ 10) (a0 : 0 ≤ arg) (a1 : arg ≤ 99) (h : PAt b base d s v rc w) (hs : s.Ok 15) : Calls Tryz.prog 50 #[.pointer (some ⟨b, 0, none⟩), .int .i64 cmd, .int .i64 arg] w (Ran b base d (colE fast cmd arg s) v w) := by
  have e : cmd = 1 ∨ cmd = 2 ∨ cmd = 3 ∨ cmd = 4 ∨ cmd = 5 ∨ cmd = 6 ∨ cmd = 7 ∨ cmd = 8 ∨ cmd = 9 ∨ cmd = 10 := by omega
  rcases e with rfl | rfl | rfl | rfl | rfl | rfl | rfl | rfl | rfl | rfl
  · exact pcolumn1 fast hd arg a0 a1 h hs
  · exact pcolumn2 fast hd arg a0 a1 h hs
  · exact pcolumn3 fast hd arg a0 a1 h hs
  · exact pcolumn4 fast hd arg a0 a1 h hs
  · exact pcolumn5 fast hd arg a0 a1 h hs
  · exact pcolumn6 fast hd arg a0 a1 h hs
  · exact pcolumn7 fast hd arg a0 a1 h hs
  · exact pcolumn8 fast hd arg a0 a1 h hs
  · exact pcolumn9 fast hd arg a0 a1 h hs
  · exact pcolumn10 fast hd arg a0 a1 h hs
end
end Go.Proofs.YtkpielgdfahanaaGreat
