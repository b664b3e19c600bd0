/- dialect.ValidCell: which cells a dialect has. -/
import Derived.Test.YtkpielgdfahanaaGreatNoted
import Derived.Test.YtkpielgdfahanaaGreatRefs1
import Derived.Test.YtkpielgdfahanaaGreatPure
import Derived.Deep.Cut
import Derived.Deep.QuietTactic
import Derived.BigQuiet
namespace Go.Proofs.YtkpielgdfahanaaGreat
open Go.RowKit Go.Maps
/-- Which effects a dialect has. -/
def effD (d e : Int) : Bool := if e = 0 then true else hasL (letS d).data.toList (letN e)
def isD (d : Int) : Bool := decide (1 ≤ d) && decide (d ≤ 6)
def validB (d note inst vc va e p : Int) : Bool := isD d && cellB note inst vc va e p && noteD d note && decide (vc ≤ volC d) && effD d e
theorem vcell19_is (note inst vc va e p : Int) (b : Bool) (h : cellB note inst vc va e p = b) (w : World) : Calls Tryz.prog 19 #[.agg #[.int .i64 note, .int .i64 inst, .int .i64 vc, .int .i64 va, .int .i64 e, .int .i64 p]] w fun x w' => x = .returned (.bool b) ∧ Below w.heap.size w w' := by
  subst h; exact vcell19 note inst vc va e p w
theorem vcell24_is (note inst vc va e p : Int) (b : Bool) (h : cellB note inst vc va e p = b) (w : World) : Calls Tryz.prog 24 #[.agg #[.int .i64 note, .int .i64 inst, .int .i64 vc, .int .i64 va, .int .i64 e, .int .i64 p]] w fun x w' => x = .returned (.bool b) ∧ Below w.heap.size w w' := by
  subst h; exact vcell24 note inst vc va e p w
theorem hasNote_is (d n : Int) (d1 : 1 ≤ d) (d2 : d ≤ 6) (b : Bool) (h : noteD d n = b) (w : World) : Calls Tryz.prog 20 #[.int .i64 d, .int .i64 n] w fun x w' => x = .returned (.bool b) ∧ Below w.heap.size w w' := by
  subst h; exact hasNote_any d n d1 d2 w
theorem rnoted_is (d n : Int) (b : Bool) (h : noteD d n = b) (w : World) : Calls Tryz.prog 25 #[.int .i64 d, .int .i64 n] w fun x w' => x = .returned (.bool b) ∧ Below w.heap.size w w' := by
  subst h; exact rnoted_any d n w
theorem keep_cell {w w' : World} (hb : Below w.heap.size w w') {g k : Nat} {v : Value} (h : w.cell? ⟨g, k, none⟩ = some v) : w'.cell? ⟨g, k, none⟩ = some v := (hb.cell (World.block_lt_of_cell? w _ h)).trans h
/-- The cells of a boxed cell. -/
def Six (g : Nat) (note inst vc va e p : Int) (w1 w' : World) : Prop :=
  w'.cell? ⟨g, 0, none⟩ = some (.int .i64 note) ∧ w'.cell? ⟨g, 1, none⟩ = some (.int .i64 inst) ∧ w'.cell? ⟨g, 2, none⟩ = some (.int .i64 vc) ∧ w'.cell? ⟨g, 3, none⟩ = some (.int .i64 va) ∧ w'.cell? ⟨g, 4, none⟩ = some (.int .i64 e) ∧ w'.cell? ⟨g, 5, none⟩ = some (.int .i64 p) ∧ Below w1.heap.size w1 w'
theorem Six.of {g : Nat} {note inst vc va e p : Int} {w1 w2 : World} (h : Six g note inst vc va e p w1 w1) (hb : Below w1.heap.size w1 w2) : Six g note inst vc va e p w1 w2 := by
  obtain ⟨h0, h1, h2, h3, h4, h5, _⟩ := h
  exact ⟨keep_cell hb h0, keep_cell hb h1, keep_cell hb h2, keep_cell hb h3, keep_cell hb h4, keep_cell hb h5, hb⟩
theorem Six.box (note inst vc va e p : Int) (w : World) : Six w.heap.size note inst vc va e p (w.alloc (.cells #[.int .i64 note, .int .i64 inst, .int .i64 vc, .int .i64 va, .int .i64 e, .int .i64 p] 23)) (w.alloc (.cells #[.int .i64 note, .int .i64 inst, .int .i64 vc, .int .i64 va, .int .i64 e, .int .i64 p] 23)) :=
  ⟨by simp, by simp, by simp, by simp, by simp, by simp, Below.refl _ _⟩
theorem index_is (s : ByteArray) (c z : Int) (h : Go.Lib.indexByte s.data.toList c.toNat.toUInt8 = z) (w : World) : Calls Tryz.prog 22 #[.string s, .int .u8 c] w fun e w' => e = .returned (.int .i64 z) ∧ w = w' := by
  subst h; exact index_any s c w
theorem cellB_eff {note inst vc va e p : Int} (h : cellB note inst vc va e p = true) : 0 ≤ e ∧ e ≤ 36 ∧ 0 ≤ p ∧ p ≤ 255 := by
  unfold cellB at h
  simp only [Bool.and_eq_true] at h
  have := (effB_iff e p).1 h.2
  omega
theorem letN_range {e : Int} (h1 : 0 ≤ e) (h2 : e ≤ 36) : 0 ≤ letN e ∧ letN e < 256 := by unfold letN; split <;> omega
theorem Six.next {g : Nat} {note inst vc va e p : Int} {w1 w2 w3 : World} (h : Six g note inst vc va e p w1 w2) (hb : Below w2.heap.size w2 w3) : Six g note inst vc va e p w1 w3 := by
  obtain ⟨h0, h1, h2, h3, h4, h5, h6⟩ := h
  exact ⟨keep_cell hb h0, keep_cell hb h1, keep_cell hb h2, keep_cell hb h3, keep_cell hb h4, keep_cell hb h5, Below.step h6 hb⟩
theorem Six.drew {g : Nat} {note inst vc va e p : Int} {w1 w2 : World} (h : Six g note inst vc va e p w1 w2) : Six g note inst vc va e p w1 w2.drew := by
  obtain ⟨h0, h1, h2, h3, h4, h5, h6⟩ := h
  exact ⟨h0, h1, h2, h3, h4, h5, ⟨h6.os, h6.tape, h6.output, h6.size, h6.block⟩⟩
theorem Six.bel {g : Nat} {note inst vc va e p : Int} {w w1 w2 : World} (h : Six g note inst vc va e p w1 w2) (hb : BelowW w w1) : BelowW w w2 := Below.step hb h.2.2.2.2.2.2
theorem BelowW.drewN {w w1 : World} (h : BelowW w w1) (n : Nat) : BelowW w (w1.drewN n) := ⟨h.os, h.tape, h.output, h.size, h.block⟩
set_option maxHeartbeats 4000000 in
set_option maxRecDepth 100000 in
theorem pvalid_A (d note inst vc va e p : Int) (hd : ¬ (1 ≤ d ∧ d ≤ 6)) (w : World) : Calls Tryz.prog 7 #[.int .i64 d, .agg #[.int .i64 note, .int .i64 inst, .int .i64 vc, .int .i64 va, .int .i64 e, .int .i64 p]] w fun x w' => x = .returned (.bool false) ∧ BelowW w w' := by
  have HD := hid hd
  clear hd
  have HS := hid (Six.box note inst vc va e p w)
  have HB : BelowW w (w.alloc (.cells #[.int .i64 note, .int .i64 inst, .int .i64 vc, .int .i64 va, .int .i64 e, .int .i64 p] 23)) := below1 w _
  go_enter Tryz.func7, Tryz.ntmps7
  go_upto_region 1 with (fail)
  generalize w.alloc (.cells #[.int .i64 note, .int .i64 inst, .int .i64 vc, .int .i64 va, .int .i64 e, .int .i64 p] 23) = w1 at *
  generalize w.heap.size = g at *
  refine wp_region_pure (n := 22) (fun X => #[.int .i64 d, .agg #[.int .i64 note, .int .i64 inst, .int .i64 vc, .int .i64 va, .int .i64 e, .int .i64 p], undef, .pointer (some ⟨g, 0, none⟩), .bool false, X 0, X 1, X 2, X 3, X 4, X 5, X 6, X 7, X 8, X 9, X 10, X 11, X 12, X 13, X 14, X 15, X 16, X 17, X 18, X 19, X 20, X 21, undef, undef, undef, undef, undef, undef, undef, undef, undef, undef]) (fun j => match j with | 0 => .int .i64 d | 1 => .bool false | 2 => .bool true | 3 => .bool true | 4 => undef | 5 => undef | 6 => undef | 7 => .bool true | 8 => .bool true | 9 => undef | 10 => undef | 11 => undef | 12 => undef | 13 => undef | 14 => .bool true | 15 => .bool true | 16 => undef | 17 => undef | 18 => undef | 19 => undef | 20 => undef | 21 => .bool true | _ => undef) (Six g note inst vc va e p w1) (fun j => match j with  | _ => undef) (by kernel_rfl) rfl (by kernel_rfl) rfl ?hR0 ?hfr ?hstep ?hend
  case hR0 => exact HS.out.drew
  case hfr =>
    intro X h
    simp only [h 0 (by decide), h 1 (by decide), h 2 (by decide), h 3 (by decide), h 4 (by decide), h 5 (by decide), h 6 (by decide), h 7 (by decide), h 8 (by decide), h 9 (by decide), h 10 (by decide), h 11 (by decide), h 12 (by decide), h 13 (by decide), h 14 (by decide), h 15 (by decide), h 16 (by decide), h 17 (by decide), h 18 (by decide), h 19 (by decide), h 20 (by decide), h 21 (by decide)]
  case hstep =>
    intro i oi hoi X w5 h hR
    match i, hoi with
    | 0, hoi =>
      cases hoi
      clear h
      refine wpOp_do rfl rfl ?_
      go_simp
      exact ⟨rfl, hR⟩
    | 1, hoi =>
      cases hoi
      have x0 : X 0 = .int .i64 d := h ⟨0, .data⟩ (by simp) (by rfl)
      clear h
      refine wpOp_do rfl rfl ?_
      simp only [x0]
      go_simp
      go_at_call 18
      refine (is_no _ _ HD.out).mono ?_
      rintro x w6 ⟨rfl, rfl⟩
      go_simp
      refine Stepped.mk2 (fun j => if j = 1 then .bool false else if j = 0 then .int .i64 d else X j) (fun j hj => ?_) rfl hR
      rw [if_neg hj]
      by_cases e0 : j = 0
      · subst e0; exact x0.symm
      rw [if_neg e0]
    | 2, hoi =>
      cases hoi
      have x1 : X 1 = .bool false := h ⟨1, .data⟩ (by simp) (by rfl)
      clear h
      refine wpOp_do rfl rfl ?_
      simp only [x1]
      go_simp
      refine Stepped.mk2 (fun j => if j = 2 then .bool true else if j = 1 then .bool false else X j) (fun j hj => ?_) rfl hR
      rw [if_neg hj]
      by_cases e1 : j = 1
      · subst e1; exact x1.symm
      rw [if_neg e1]
    | 3, hoi =>
      cases hoi
      have x2 : X 2 = .bool true := h ⟨2, .data⟩ (by simp) (by rfl)
      have x1 : X 1 = .bool false := h ⟨1, .chain⟩ (by simp) (by rfl)
      clear h
      refine wpOp_do rfl rfl ?_
      simp only [x1, x2]
      go_simp
      refine Stepped.mk2 (fun j => if j = 3 then .bool true else if j = 1 then .bool false else if j = 2 then .bool true else X j) (fun j hj => ?_) rfl hR
      rw [if_neg hj]
      by_cases e1 : j = 1
      · subst e1; exact x1.symm
      rw [if_neg e1]
      by_cases e2 : j = 2
      · subst e2; exact x2.symm
      rw [if_neg e2]
    | 4, hoi =>
      cases hoi
      have x3 : X 3 = .bool true := h ⟨3, .guard⟩ (by simp) (by rfl)
      refine wpOp_skip rfl ?_ ⟨?_, hR⟩
      · show Region.wanted _ (yielded _ _) = false
        simp only [x3]
        rfl
      · rfl
    | 5, hoi =>
      cases hoi
      have x4 : X 4 = undef := h ⟨4, .data⟩ (by simp) (by rfl)
      have x3 : X 3 = .bool true := h ⟨3, .chain⟩ (by simp) (by rfl)
      refine wpOp_skip rfl ?_ ⟨?_, hR⟩
      · show Region.wanted _ (yielded _ _) = false
        simp only [x3, x4]
        rfl
      · rfl
    | 6, hoi =>
      cases hoi
      have x5 : X 5 = undef := h ⟨5, .data⟩ (by simp) (by rfl)
      have x3 : X 3 = .bool true := h ⟨3, .guard⟩ (by simp) (by rfl)
      refine wpOp_skip rfl ?_ ⟨?_, hR⟩
      · show Region.wanted _ (yielded _ _) = false
        simp only [x3, x5]
        rfl
      · rfl
    | 7, hoi =>
      cases hoi
      have x3 : X 3 = .bool true := h ⟨3, .data⟩ (by simp) (by rfl)
      have x6 : X 6 = undef := h ⟨6, .data⟩ (by simp) (by rfl)
      clear h
      refine wpOp_do rfl rfl ?_
      simp only [x3, x6]
      go_simp
      refine Stepped.mk2 (fun j => if j = 7 then .bool true else if j = 3 then .bool true else if j = 6 then undef else X j) (fun j hj => ?_) rfl hR
      rw [if_neg hj]
      by_cases e3 : j = 3
      · subst e3; exact x3.symm
      rw [if_neg e3]
      by_cases e6 : j = 6
      · subst e6; exact x6.symm
      rw [if_neg e6]
    | 8, hoi =>
      cases hoi
      have x7 : X 7 = .bool true := h ⟨7, .data⟩ (by simp) (by rfl)
      have x5 : X 5 = undef := h ⟨5, .chain⟩ (by simp) (by rfl)
      clear h
      refine wpOp_do rfl rfl ?_
      simp only [x5, x7]
      go_simp
      refine Stepped.mk2 (fun j => if j = 8 then .bool true else if j = 5 then undef else if j = 7 then .bool true else X j) (fun j hj => ?_) rfl hR
      rw [if_neg hj]
      by_cases e5 : j = 5
      · subst e5; exact x5.symm
      rw [if_neg e5]
      by_cases e7 : j = 7
      · subst e7; exact x7.symm
      rw [if_neg e7]
    | 9, hoi =>
      cases hoi
      have x8 : X 8 = .bool true := h ⟨8, .guard⟩ (by simp) (by rfl)
      refine wpOp_skip rfl ?_ ⟨?_, hR⟩
      · show Region.wanted _ (yielded _ _) = false
        simp only [x8]
        rfl
      · rfl
    | 10, hoi =>
      cases hoi
      have x8 : X 8 = .bool true := h ⟨8, .guard⟩ (by simp) (by rfl)
      refine wpOp_skip rfl ?_ ⟨?_, hR⟩
      · show Region.wanted _ (yielded _ _) = false
        simp only [x8]
        rfl
      · rfl
    | 11, hoi =>
      cases hoi
      have x10 : X 10 = undef := h ⟨10, .data⟩ (by simp) (by rfl)
      have x8 : X 8 = .bool true := h ⟨8, .guard⟩ (by simp) (by rfl)
      refine wpOp_skip rfl ?_ ⟨?_, hR⟩
      · show Region.wanted _ (yielded _ _) = false
        simp only [x8, x10]
        rfl
      · rfl
    | 12, hoi =>
      cases hoi
      have x9 : X 9 = undef := h ⟨9, .data⟩ (by simp) (by rfl)
      have x11 : X 11 = undef := h ⟨11, .data⟩ (by simp) (by rfl)
      have x8 : X 8 = .bool true := h ⟨8, .chain⟩ (by simp) (by rfl)
      refine wpOp_skip rfl ?_ ⟨?_, hR⟩
      · show Region.wanted _ (yielded _ _) = false
        simp only [x8, x9, x11]
        rfl
      · rfl
    | 13, hoi =>
      cases hoi
      have x12 : X 12 = undef := h ⟨12, .data⟩ (by simp) (by rfl)
      have x8 : X 8 = .bool true := h ⟨8, .guard⟩ (by simp) (by rfl)
      refine wpOp_skip rfl ?_ ⟨?_, hR⟩
      · show Region.wanted _ (yielded _ _) = false
        simp only [x8, x12]
        rfl
      · rfl
    | 14, hoi =>
      cases hoi
      have x8 : X 8 = .bool true := h ⟨8, .data⟩ (by simp) (by rfl)
      have x13 : X 13 = undef := h ⟨13, .data⟩ (by simp) (by rfl)
      clear h
      refine wpOp_do rfl rfl ?_
      simp only [x8, x13]
      go_simp
      refine Stepped.mk2 (fun j => if j = 14 then .bool true else if j = 8 then .bool true else if j = 13 then undef else X j) (fun j hj => ?_) rfl hR
      rw [if_neg hj]
      by_cases e8 : j = 8
      · subst e8; exact x8.symm
      rw [if_neg e8]
      by_cases e13 : j = 13
      · subst e13; exact x13.symm
      rw [if_neg e13]
    | 15, hoi =>
      cases hoi
      have x14 : X 14 = .bool true := h ⟨14, .data⟩ (by simp) (by rfl)
      have x12 : X 12 = undef := h ⟨12, .chain⟩ (by simp) (by rfl)
      clear h
      refine wpOp_do rfl rfl ?_
      simp only [x12, x14]
      go_simp
      refine Stepped.mk2 (fun j => if j = 15 then .bool true else if j = 12 then undef else if j = 14 then .bool true else X j) (fun j hj => ?_) rfl hR
      rw [if_neg hj]
      by_cases e12 : j = 12
      · subst e12; exact x12.symm
      rw [if_neg e12]
      by_cases e14 : j = 14
      · subst e14; exact x14.symm
      rw [if_neg e14]
    | 16, hoi =>
      cases hoi
      have x15 : X 15 = .bool true := h ⟨15, .guard⟩ (by simp) (by rfl)
      refine wpOp_skip rfl ?_ ⟨?_, hR⟩
      · show Region.wanted _ (yielded _ _) = false
        simp only [x15]
        rfl
      · rfl
    | 17, hoi =>
      cases hoi
      have x16 : X 16 = undef := h ⟨16, .data⟩ (by simp) (by rfl)
      have x15 : X 15 = .bool true := h ⟨15, .guard⟩ (by simp) (by rfl)
      refine wpOp_skip rfl ?_ ⟨?_, hR⟩
      · show Region.wanted _ (yielded _ _) = false
        simp only [x15, x16]
        rfl
      · rfl
    | 18, hoi =>
      cases hoi
      have x15 : X 15 = .bool true := h ⟨15, .guard⟩ (by simp) (by rfl)
      refine wpOp_skip rfl ?_ ⟨?_, hR⟩
      · show Region.wanted _ (yielded _ _) = false
        simp only [x15]
        rfl
      · rfl
    | 19, hoi =>
      cases hoi
      have x18 : X 18 = undef := h ⟨18, .data⟩ (by simp) (by rfl)
      have x15 : X 15 = .bool true := h ⟨15, .chain⟩ (by simp) (by rfl)
      refine wpOp_skip rfl ?_ ⟨?_, hR⟩
      · show Region.wanted _ (yielded _ _) = false
        simp only [x15, x18]
        rfl
      · rfl
    | 20, hoi =>
      cases hoi
      have x17 : X 17 = undef := h ⟨17, .data⟩ (by simp) (by rfl)
      have x19 : X 19 = undef := h ⟨19, .data⟩ (by simp) (by rfl)
      have x15 : X 15 = .bool true := h ⟨15, .guard⟩ (by simp) (by rfl)
      refine wpOp_skip rfl ?_ ⟨?_, hR⟩
      · show Region.wanted _ (yielded _ _) = false
        simp only [x15, x17, x19]
        rfl
      · rfl
    | 21, hoi =>
      cases hoi
      have x15 : X 15 = .bool true := h ⟨15, .data⟩ (by simp) (by rfl)
      have x20 : X 20 = undef := h ⟨20, .data⟩ (by simp) (by rfl)
      clear h
      refine wpOp_do rfl rfl ?_
      simp only [x15, x20]
      go_simp
      refine Stepped.mk2 (fun j => if j = 21 then .bool true else if j = 15 then .bool true else if j = 20 then undef else X j) (fun j hj => ?_) rfl hR
      rw [if_neg hj]
      by_cases e15 : j = 15
      · subst e15; exact x15.symm
      rw [if_neg e15]
      by_cases e20 : j = 20
      · subst e20; exact x20.symm
      rw [if_neg e20]
    | i + 22, hoi => simp at hoi
  case hend =>
    intro w5 hR
    dsimp only
    go_wp2
    go_ret
    exact ⟨rfl, hR.bel HB⟩
set_option maxHeartbeats 4000000 in
set_option maxRecDepth 100000 in
theorem pvalid_B (d note inst vc va e p : Int) (d1 : 1 ≤ d) (d2 : d ≤ 6) (hc : cellB note inst vc va e p = false) (w : World) : Calls Tryz.prog 7 #[.int .i64 d, .agg #[.int .i64 note, .int .i64 inst, .int .i64 vc, .int .i64 va, .int .i64 e, .int .i64 p]] w fun x w' => x = .returned (.bool false) ∧ BelowW w w' := by
  have HD := hid (And.intro d1 d2)
  have HC := hid hc
  clear d1 d2 hc
  have HS := hid (Six.box note inst vc va e p w)
  have HB : BelowW w (w.alloc (.cells #[.int .i64 note, .int .i64 inst, .int .i64 vc, .int .i64 va, .int .i64 e, .int .i64 p] 23)) := below1 w _
  go_enter Tryz.func7, Tryz.ntmps7
  go_upto_region 1 with (fail)
  generalize w.alloc (.cells #[.int .i64 note, .int .i64 inst, .int .i64 vc, .int .i64 va, .int .i64 e, .int .i64 p] 23) = w1 at *
  generalize w.heap.size = g at *
  refine wp_region_pure (n := 22) (fun X => #[.int .i64 d, .agg #[.int .i64 note, .int .i64 inst, .int .i64 vc, .int .i64 va, .int .i64 e, .int .i64 p], undef, .pointer (some ⟨g, 0, none⟩), .bool false, X 0, X 1, X 2, X 3, X 4, X 5, X 6, X 7, X 8, X 9, X 10, X 11, X 12, X 13, X 14, X 15, X 16, X 17, X 18, X 19, X 20, X 21, undef, undef, undef, undef, undef, undef, undef, undef, undef, undef]) (fun j => match j with | 0 => .int .i64 d | 1 => .bool true | 2 => .bool false | 3 => .bool false | 4 => .agg #[.int .i64 note, .int .i64 inst, .int .i64 vc, .int .i64 va, .int .i64 e, .int .i64 p] | 5 => .bool false | 6 => .bool true | 7 => .bool true | 8 => .bool true | 9 => undef | 10 => undef | 11 => undef | 12 => undef | 13 => undef | 14 => .bool true | 15 => .bool true | 16 => undef | 17 => undef | 18 => undef | 19 => undef | 20 => undef | 21 => .bool true | _ => undef) (Six g note inst vc va e p w1) (fun j => match j with  | _ => undef) (by kernel_rfl) rfl (by kernel_rfl) rfl ?hR0 ?hfr ?hstep ?hend
  case hR0 => exact HS.out.drew
  case hfr =>
    intro X h
    simp only [h 0 (by decide), h 1 (by decide), h 2 (by decide), h 3 (by decide), h 4 (by decide), h 5 (by decide), h 6 (by decide), h 7 (by decide), h 8 (by decide), h 9 (by decide), h 10 (by decide), h 11 (by decide), h 12 (by decide), h 13 (by decide), h 14 (by decide), h 15 (by decide), h 16 (by decide), h 17 (by decide), h 18 (by decide), h 19 (by decide), h 20 (by decide), h 21 (by decide)]
  case hstep =>
    intro i oi hoi X w5 h hR
    match i, hoi with
    | 0, hoi =>
      cases hoi
      clear h
      refine wpOp_do rfl rfl ?_
      go_simp
      exact ⟨rfl, hR⟩
    | 1, hoi =>
      cases hoi
      have x0 : X 0 = .int .i64 d := h ⟨0, .data⟩ (by simp) (by rfl)
      clear h
      refine wpOp_do rfl rfl ?_
      simp only [x0]
      go_simp
      go_at_call 18
      refine (is_yes _ _ HD.out.1 HD.out.2).mono ?_
      rintro x w6 ⟨rfl, rfl⟩
      go_simp
      refine Stepped.mk2 (fun j => if j = 1 then .bool true else if j = 0 then .int .i64 d else X j) (fun j hj => ?_) rfl hR
      rw [if_neg hj]
      by_cases e0 : j = 0
      · subst e0; exact x0.symm
      rw [if_neg e0]
    | 2, hoi =>
      cases hoi
      have x1 : X 1 = .bool true := h ⟨1, .data⟩ (by simp) (by rfl)
      clear h
      refine wpOp_do rfl rfl ?_
      simp only [x1]
      go_simp
      refine Stepped.mk2 (fun j => if j = 2 then .bool false else if j = 1 then .bool true else X j) (fun j hj => ?_) rfl hR
      rw [if_neg hj]
      by_cases e1 : j = 1
      · subst e1; exact x1.symm
      rw [if_neg e1]
    | 3, hoi =>
      cases hoi
      have x2 : X 2 = .bool false := h ⟨2, .data⟩ (by simp) (by rfl)
      have x1 : X 1 = .bool true := h ⟨1, .chain⟩ (by simp) (by rfl)
      clear h
      refine wpOp_do rfl rfl ?_
      simp only [x1, x2]
      go_simp
      refine Stepped.mk2 (fun j => if j = 3 then .bool false else if j = 1 then .bool true else if j = 2 then .bool false else X j) (fun j hj => ?_) rfl hR
      rw [if_neg hj]
      by_cases e1 : j = 1
      · subst e1; exact x1.symm
      rw [if_neg e1]
      by_cases e2 : j = 2
      · subst e2; exact x2.symm
      rw [if_neg e2]
    | 4, hoi =>
      cases hoi
      have x3 : X 3 = .bool false := h ⟨3, .guard⟩ (by simp) (by rfl)
      clear h
      refine wpOp_do rfl ?_ ?_
      · show Region.wanted _ (yielded _ _) = true
        simp only [x3]
        rfl
      simp only [x3]
      obtain ⟨q0, q1, q2, q3, q4, q5, -⟩ := id hR
      go_simp
      refine Stepped.mk2 (fun j => if j = 4 then .agg #[.int .i64 note, .int .i64 inst, .int .i64 vc, .int .i64 va, .int .i64 e, .int .i64 p] else if j = 3 then .bool false else X j) (fun j hj => ?_) rfl hR
      rw [if_neg hj]
      by_cases e3 : j = 3
      · subst e3; exact x3.symm
      rw [if_neg e3]
    | 5, hoi =>
      cases hoi
      have x4 : X 4 = .agg #[.int .i64 note, .int .i64 inst, .int .i64 vc, .int .i64 va, .int .i64 e, .int .i64 p] := h ⟨4, .data⟩ (by simp) (by rfl)
      have x3 : X 3 = .bool false := h ⟨3, .chain⟩ (by simp) (by rfl)
      clear h
      refine wpOp_do rfl ?_ ?_
      · show Region.wanted _ (yielded _ _) = true
        simp only [x3, x4]
        rfl
      simp only [x3, x4]
      go_simp
      go_at_call 19
      refine (vcell19_is note inst vc va e p _ HC.out _).mono ?_
      rintro x w6 ⟨rfl, hb⟩
      go_simp
      refine Stepped.mk2 (fun j => if j = 5 then .bool false else if j = 3 then .bool false else if j = 4 then .agg #[.int .i64 note, .int .i64 inst, .int .i64 vc, .int .i64 va, .int .i64 e, .int .i64 p] else X j) (fun j hj => ?_) rfl (hR.next hb)
      rw [if_neg hj]
      by_cases e3 : j = 3
      · subst e3; exact x3.symm
      rw [if_neg e3]
      by_cases e4 : j = 4
      · subst e4; exact x4.symm
      rw [if_neg e4]
    | 6, hoi =>
      cases hoi
      have x5 : X 5 = .bool false := h ⟨5, .data⟩ (by simp) (by rfl)
      have x3 : X 3 = .bool false := h ⟨3, .guard⟩ (by simp) (by rfl)
      clear h
      refine wpOp_do rfl ?_ ?_
      · show Region.wanted _ (yielded _ _) = true
        simp only [x3, x5]
        rfl
      simp only [x3, x5]
      go_simp
      refine Stepped.mk2 (fun j => if j = 6 then .bool true else if j = 3 then .bool false else if j = 5 then .bool false else X j) (fun j hj => ?_) rfl hR
      rw [if_neg hj]
      by_cases e3 : j = 3
      · subst e3; exact x3.symm
      rw [if_neg e3]
      by_cases e5 : j = 5
      · subst e5; exact x5.symm
      rw [if_neg e5]
    | 7, hoi =>
      cases hoi
      have x3 : X 3 = .bool false := h ⟨3, .data⟩ (by simp) (by rfl)
      have x6 : X 6 = .bool true := h ⟨6, .data⟩ (by simp) (by rfl)
      clear h
      refine wpOp_do rfl rfl ?_
      simp only [x3, x6]
      go_simp
      refine Stepped.mk2 (fun j => if j = 7 then .bool true else if j = 3 then .bool false else if j = 6 then .bool true else X j) (fun j hj => ?_) rfl hR
      rw [if_neg hj]
      by_cases e3 : j = 3
      · subst e3; exact x3.symm
      rw [if_neg e3]
      by_cases e6 : j = 6
      · subst e6; exact x6.symm
      rw [if_neg e6]
    | 8, hoi =>
      cases hoi
      have x7 : X 7 = .bool true := h ⟨7, .data⟩ (by simp) (by rfl)
      have x5 : X 5 = .bool false := h ⟨5, .chain⟩ (by simp) (by rfl)
      clear h
      refine wpOp_do rfl rfl ?_
      simp only [x5, x7]
      go_simp
      refine Stepped.mk2 (fun j => if j = 8 then .bool true else if j = 5 then .bool false else if j = 7 then .bool true else X j) (fun j hj => ?_) rfl hR
      rw [if_neg hj]
      by_cases e5 : j = 5
      · subst e5; exact x5.symm
      rw [if_neg e5]
      by_cases e7 : j = 7
      · subst e7; exact x7.symm
      rw [if_neg e7]
    | 9, hoi =>
      cases hoi
      have x8 : X 8 = .bool true := h ⟨8, .guard⟩ (by simp) (by rfl)
      refine wpOp_skip rfl ?_ ⟨?_, hR⟩
      · show Region.wanted _ (yielded _ _) = false
        simp only [x8]
        rfl
      · rfl
    | 10, hoi =>
      cases hoi
      have x8 : X 8 = .bool true := h ⟨8, .guard⟩ (by simp) (by rfl)
      refine wpOp_skip rfl ?_ ⟨?_, hR⟩
      · show Region.wanted _ (yielded _ _) = false
        simp only [x8]
        rfl
      · rfl
    | 11, hoi =>
      cases hoi
      have x10 : X 10 = undef := h ⟨10, .data⟩ (by simp) (by rfl)
      have x8 : X 8 = .bool true := h ⟨8, .guard⟩ (by simp) (by rfl)
      refine wpOp_skip rfl ?_ ⟨?_, hR⟩
      · show Region.wanted _ (yielded _ _) = false
        simp only [x8, x10]
        rfl
      · rfl
    | 12, hoi =>
      cases hoi
      have x9 : X 9 = undef := h ⟨9, .data⟩ (by simp) (by rfl)
      have x11 : X 11 = undef := h ⟨11, .data⟩ (by simp) (by rfl)
      have x8 : X 8 = .bool true := h ⟨8, .chain⟩ (by simp) (by rfl)
      refine wpOp_skip rfl ?_ ⟨?_, hR⟩
      · show Region.wanted _ (yielded _ _) = false
        simp only [x8, x9, x11]
        rfl
      · rfl
    | 13, hoi =>
      cases hoi
      have x12 : X 12 = undef := h ⟨12, .data⟩ (by simp) (by rfl)
      have x8 : X 8 = .bool true := h ⟨8, .guard⟩ (by simp) (by rfl)
      refine wpOp_skip rfl ?_ ⟨?_, hR⟩
      · show Region.wanted _ (yielded _ _) = false
        simp only [x8, x12]
        rfl
      · rfl
    | 14, hoi =>
      cases hoi
      have x8 : X 8 = .bool true := h ⟨8, .data⟩ (by simp) (by rfl)
      have x13 : X 13 = undef := h ⟨13, .data⟩ (by simp) (by rfl)
      clear h
      refine wpOp_do rfl rfl ?_
      simp only [x8, x13]
      go_simp
      refine Stepped.mk2 (fun j => if j = 14 then .bool true else if j = 8 then .bool true else if j = 13 then undef else X j) (fun j hj => ?_) rfl hR
      rw [if_neg hj]
      by_cases e8 : j = 8
      · subst e8; exact x8.symm
      rw [if_neg e8]
      by_cases e13 : j = 13
      · subst e13; exact x13.symm
      rw [if_neg e13]
    | 15, hoi =>
      cases hoi
      have x14 : X 14 = .bool true := h ⟨14, .data⟩ (by simp) (by rfl)
      have x12 : X 12 = undef := h ⟨12, .chain⟩ (by simp) (by rfl)
      clear h
      refine wpOp_do rfl rfl ?_
      simp only [x12, x14]
      go_simp
      refine Stepped.mk2 (fun j => if j = 15 then .bool true else if j = 12 then undef else if j = 14 then .bool true else X j) (fun j hj => ?_) rfl hR
      rw [if_neg hj]
      by_cases e12 : j = 12
      · subst e12; exact x12.symm
      rw [if_neg e12]
      by_cases e14 : j = 14
      · subst e14; exact x14.symm
      rw [if_neg e14]
    | 16, hoi =>
      cases hoi
      have x15 : X 15 = .bool true := h ⟨15, .guard⟩ (by simp) (by rfl)
      refine wpOp_skip rfl ?_ ⟨?_, hR⟩
      · show Region.wanted _ (yielded _ _) = false
        simp only [x15]
        rfl
      · rfl
    | 17, hoi =>
      cases hoi
      have x16 : X 16 = undef := h ⟨16, .data⟩ (by simp) (by rfl)
      have x15 : X 15 = .bool true := h ⟨15, .guard⟩ (by simp) (by rfl)
      refine wpOp_skip rfl ?_ ⟨?_, hR⟩
      · show Region.wanted _ (yielded _ _) = false
        simp only [x15, x16]
        rfl
      · rfl
    | 18, hoi =>
      cases hoi
      have x15 : X 15 = .bool true := h ⟨15, .guard⟩ (by simp) (by rfl)
      refine wpOp_skip rfl ?_ ⟨?_, hR⟩
      · show Region.wanted _ (yielded _ _) = false
        simp only [x15]
        rfl
      · rfl
    | 19, hoi =>
      cases hoi
      have x18 : X 18 = undef := h ⟨18, .data⟩ (by simp) (by rfl)
      have x15 : X 15 = .bool true := h ⟨15, .chain⟩ (by simp) (by rfl)
      refine wpOp_skip rfl ?_ ⟨?_, hR⟩
      · show Region.wanted _ (yielded _ _) = false
        simp only [x15, x18]
        rfl
      · rfl
    | 20, hoi =>
      cases hoi
      have x17 : X 17 = undef := h ⟨17, .data⟩ (by simp) (by rfl)
      have x19 : X 19 = undef := h ⟨19, .data⟩ (by simp) (by rfl)
      have x15 : X 15 = .bool true := h ⟨15, .guard⟩ (by simp) (by rfl)
      refine wpOp_skip rfl ?_ ⟨?_, hR⟩
      · show Region.wanted _ (yielded _ _) = false
        simp only [x15, x17, x19]
        rfl
      · rfl
    | 21, hoi =>
      cases hoi
      have x15 : X 15 = .bool true := h ⟨15, .data⟩ (by simp) (by rfl)
      have x20 : X 20 = undef := h ⟨20, .data⟩ (by simp) (by rfl)
      clear h
      refine wpOp_do rfl rfl ?_
      simp only [x15, x20]
      go_simp
      refine Stepped.mk2 (fun j => if j = 21 then .bool true else if j = 15 then .bool true else if j = 20 then undef else X j) (fun j hj => ?_) rfl hR
      rw [if_neg hj]
      by_cases e15 : j = 15
      · subst e15; exact x15.symm
      rw [if_neg e15]
      by_cases e20 : j = 20
      · subst e20; exact x20.symm
      rw [if_neg e20]
    | i + 22, hoi => simp at hoi
  case hend =>
    intro w5 hR
    dsimp only
    go_wp2
    go_ret
    exact ⟨rfl, hR.bel HB⟩
set_option maxHeartbeats 4000000 in
set_option maxRecDepth 100000 in
theorem pvalid_C (d note inst vc va e p : Int) (d1 : 1 ≤ d) (d2 : d ≤ 6) (hc : cellB note inst vc va e p = true) (hn : noteD d note = false) (w : World) : Calls Tryz.prog 7 #[.int .i64 d, .agg #[.int .i64 note, .int .i64 inst, .int .i64 vc, .int .i64 va, .int .i64 e, .int .i64 p]] w fun x w' => x = .returned (.bool false) ∧ BelowW w w' := by
  have HD := hid (And.intro d1 d2)
  have HC := hid hc
  have HN := hid hn
  clear d1 d2 hc hn
  have HS := hid (Six.box note inst vc va e p w)
  have HB : BelowW w (w.alloc (.cells #[.int .i64 note, .int .i64 inst, .int .i64 vc, .int .i64 va, .int .i64 e, .int .i64 p] 23)) := below1 w _
  go_enter Tryz.func7, Tryz.ntmps7
  go_upto_region 1 with (fail)
  generalize w.alloc (.cells #[.int .i64 note, .int .i64 inst, .int .i64 vc, .int .i64 va, .int .i64 e, .int .i64 p] 23) = w1 at *
  generalize w.heap.size = g at *
  refine wp_region_pure (n := 22) (fun X => #[.int .i64 d, .agg #[.int .i64 note, .int .i64 inst, .int .i64 vc, .int .i64 va, .int .i64 e, .int .i64 p], undef, .pointer (some ⟨g, 0, none⟩), .bool false, X 0, X 1, X 2, X 3, X 4, X 5, X 6, X 7, X 8, X 9, X 10, X 11, X 12, X 13, X 14, X 15, X 16, X 17, X 18, X 19, X 20, X 21, undef, undef, undef, undef, undef, undef, undef, undef, undef, undef]) (fun j => match j with | 0 => .int .i64 d | 1 => .bool true | 2 => .bool false | 3 => .bool false | 4 => .agg #[.int .i64 note, .int .i64 inst, .int .i64 vc, .int .i64 va, .int .i64 e, .int .i64 p] | 5 => .bool true | 6 => .bool false | 7 => .bool false | 8 => .bool false | 9 => .int .i64 d | 10 => .pointer (some ⟨g, 0, none⟩) | 11 => .int .i64 note | 12 => .bool false | 13 => .bool true | 14 => .bool true | 15 => .bool true | 16 => undef | 17 => undef | 18 => undef | 19 => undef | 20 => undef | 21 => .bool true | _ => undef) (Six g note inst vc va e p w1) (fun j => match j with  | _ => undef) (by kernel_rfl) rfl (by kernel_rfl) rfl ?hR0 ?hfr ?hstep ?hend
  case hR0 => exact HS.out.drew
  case hfr =>
    intro X h
    simp only [h 0 (by decide), h 1 (by decide), h 2 (by decide), h 3 (by decide), h 4 (by decide), h 5 (by decide), h 6 (by decide), h 7 (by decide), h 8 (by decide), h 9 (by decide), h 10 (by decide), h 11 (by decide), h 12 (by decide), h 13 (by decide), h 14 (by decide), h 15 (by decide), h 16 (by decide), h 17 (by decide), h 18 (by decide), h 19 (by decide), h 20 (by decide), h 21 (by decide)]
  case hstep =>
    intro i oi hoi X w5 h hR
    match i, hoi with
    | 0, hoi =>
      cases hoi
      clear h
      refine wpOp_do rfl rfl ?_
      go_simp
      exact ⟨rfl, hR⟩
    | 1, hoi =>
      cases hoi
      have x0 : X 0 = .int .i64 d := h ⟨0, .data⟩ (by simp) (by rfl)
      clear h
      refine wpOp_do rfl rfl ?_
      simp only [x0]
      go_simp
      go_at_call 18
      refine (is_yes _ _ HD.out.1 HD.out.2).mono ?_
      rintro x w6 ⟨rfl, rfl⟩
      go_simp
      refine Stepped.mk2 (fun j => if j = 1 then .bool true else if j = 0 then .int .i64 d else X j) (fun j hj => ?_) rfl hR
      rw [if_neg hj]
      by_cases e0 : j = 0
      · subst e0; exact x0.symm
      rw [if_neg e0]
    | 2, hoi =>
      cases hoi
      have x1 : X 1 = .bool true := h ⟨1, .data⟩ (by simp) (by rfl)
      clear h
      refine wpOp_do rfl rfl ?_
      simp only [x1]
      go_simp
      refine Stepped.mk2 (fun j => if j = 2 then .bool false else if j = 1 then .bool true else X j) (fun j hj => ?_) rfl hR
      rw [if_neg hj]
      by_cases e1 : j = 1
      · subst e1; exact x1.symm
      rw [if_neg e1]
    | 3, hoi =>
      cases hoi
      have x2 : X 2 = .bool false := h ⟨2, .data⟩ (by simp) (by rfl)
      have x1 : X 1 = .bool true := h ⟨1, .chain⟩ (by simp) (by rfl)
      clear h
      refine wpOp_do rfl rfl ?_
      simp only [x1, x2]
      go_simp
      refine Stepped.mk2 (fun j => if j = 3 then .bool false else if j = 1 then .bool true else if j = 2 then .bool false else X j) (fun j hj => ?_) rfl hR
      rw [if_neg hj]
      by_cases e1 : j = 1
      · subst e1; exact x1.symm
      rw [if_neg e1]
      by_cases e2 : j = 2
      · subst e2; exact x2.symm
      rw [if_neg e2]
    | 4, hoi =>
      cases hoi
      have x3 : X 3 = .bool false := h ⟨3, .guard⟩ (by simp) (by rfl)
      clear h
      refine wpOp_do rfl ?_ ?_
      · show Region.wanted _ (yielded _ _) = true
        simp only [x3]
        rfl
      simp only [x3]
      obtain ⟨q0, q1, q2, q3, q4, q5, -⟩ := id hR
      go_simp
      refine Stepped.mk2 (fun j => if j = 4 then .agg #[.int .i64 note, .int .i64 inst, .int .i64 vc, .int .i64 va, .int .i64 e, .int .i64 p] else if j = 3 then .bool false else X j) (fun j hj => ?_) rfl hR
      rw [if_neg hj]
      by_cases e3 : j = 3
      · subst e3; exact x3.symm
      rw [if_neg e3]
    | 5, hoi =>
      cases hoi
      have x4 : X 4 = .agg #[.int .i64 note, .int .i64 inst, .int .i64 vc, .int .i64 va, .int .i64 e, .int .i64 p] := h ⟨4, .data⟩ (by simp) (by rfl)
      have x3 : X 3 = .bool false := h ⟨3, .chain⟩ (by simp) (by rfl)
      clear h
      refine wpOp_do rfl ?_ ?_
      · show Region.wanted _ (yielded _ _) = true
        simp only [x3, x4]
        rfl
      simp only [x3, x4]
      go_simp
      go_at_call 19
      refine (vcell19_is note inst vc va e p _ HC.out _).mono ?_
      rintro x w6 ⟨rfl, hb⟩
      go_simp
      refine Stepped.mk2 (fun j => if j = 5 then .bool true else if j = 3 then .bool false else if j = 4 then .agg #[.int .i64 note, .int .i64 inst, .int .i64 vc, .int .i64 va, .int .i64 e, .int .i64 p] else X j) (fun j hj => ?_) rfl (hR.next hb)
      rw [if_neg hj]
      by_cases e3 : j = 3
      · subst e3; exact x3.symm
      rw [if_neg e3]
      by_cases e4 : j = 4
      · subst e4; exact x4.symm
      rw [if_neg e4]
    | 6, hoi =>
      cases hoi
      have x5 : X 5 = .bool true := h ⟨5, .data⟩ (by simp) (by rfl)
      have x3 : X 3 = .bool false := h ⟨3, .guard⟩ (by simp) (by rfl)
      clear h
      refine wpOp_do rfl ?_ ?_
      · show Region.wanted _ (yielded _ _) = true
        simp only [x3, x5]
        rfl
      simp only [x3, x5]
      go_simp
      refine Stepped.mk2 (fun j => if j = 6 then .bool false else if j = 3 then .bool false else if j = 5 then .bool true else X j) (fun j hj => ?_) rfl hR
      rw [if_neg hj]
      by_cases e3 : j = 3
      · subst e3; exact x3.symm
      rw [if_neg e3]
      by_cases e5 : j = 5
      · subst e5; exact x5.symm
      rw [if_neg e5]
    | 7, hoi =>
      cases hoi
      have x3 : X 3 = .bool false := h ⟨3, .data⟩ (by simp) (by rfl)
      have x6 : X 6 = .bool false := h ⟨6, .data⟩ (by simp) (by rfl)
      clear h
      refine wpOp_do rfl rfl ?_
      simp only [x3, x6]
      go_simp
      refine Stepped.mk2 (fun j => if j = 7 then .bool false else if j = 3 then .bool false else if j = 6 then .bool false else X j) (fun j hj => ?_) rfl hR
      rw [if_neg hj]
      by_cases e3 : j = 3
      · subst e3; exact x3.symm
      rw [if_neg e3]
      by_cases e6 : j = 6
      · subst e6; exact x6.symm
      rw [if_neg e6]
    | 8, hoi =>
      cases hoi
      have x7 : X 7 = .bool false := h ⟨7, .data⟩ (by simp) (by rfl)
      have x5 : X 5 = .bool true := h ⟨5, .chain⟩ (by simp) (by rfl)
      clear h
      refine wpOp_do rfl rfl ?_
      simp only [x5, x7]
      go_simp
      refine Stepped.mk2 (fun j => if j = 8 then .bool false else if j = 5 then .bool true else if j = 7 then .bool false else X j) (fun j hj => ?_) rfl hR
      rw [if_neg hj]
      by_cases e5 : j = 5
      · subst e5; exact x5.symm
      rw [if_neg e5]
      by_cases e7 : j = 7
      · subst e7; exact x7.symm
      rw [if_neg e7]
    | 9, hoi =>
      cases hoi
      have x8 : X 8 = .bool false := h ⟨8, .guard⟩ (by simp) (by rfl)
      clear h
      refine wpOp_do rfl ?_ ?_
      · show Region.wanted _ (yielded _ _) = true
        simp only [x8]
        rfl
      simp only [x8]
      go_simp
      refine Stepped.mk2 (fun j => if j = 9 then .int .i64 d else if j = 8 then .bool false else X j) (fun j hj => ?_) rfl hR
      rw [if_neg hj]
      by_cases e8 : j = 8
      · subst e8; exact x8.symm
      rw [if_neg e8]
    | 10, hoi =>
      cases hoi
      have x8 : X 8 = .bool false := h ⟨8, .guard⟩ (by simp) (by rfl)
      clear h
      refine wpOp_do rfl ?_ ?_
      · show Region.wanted _ (yielded _ _) = true
        simp only [x8]
        rfl
      simp only [x8]
      go_simp
      refine Stepped.mk2 (fun j => if j = 10 then .pointer (some ⟨g, 0, none⟩) else if j = 8 then .bool false else X j) (fun j hj => ?_) rfl hR
      rw [if_neg hj]
      by_cases e8 : j = 8
      · subst e8; exact x8.symm
      rw [if_neg e8]
    | 11, hoi =>
      cases hoi
      have x10 : X 10 = .pointer (some ⟨g, 0, none⟩) := h ⟨10, .data⟩ (by simp) (by rfl)
      have x8 : X 8 = .bool false := h ⟨8, .guard⟩ (by simp) (by rfl)
      clear h
      refine wpOp_do rfl ?_ ?_
      · show Region.wanted _ (yielded _ _) = true
        simp only [x8, x10]
        rfl
      simp only [x8, x10]
      obtain ⟨q0, q1, q2, q3, q4, q5, -⟩ := id hR
      go_simp
      refine Stepped.mk2 (fun j => if j = 11 then .int .i64 note else if j = 8 then .bool false else if j = 10 then .pointer (some ⟨g, 0, none⟩) else X j) (fun j hj => ?_) rfl hR
      rw [if_neg hj]
      by_cases e8 : j = 8
      · subst e8; exact x8.symm
      rw [if_neg e8]
      by_cases e10 : j = 10
      · subst e10; exact x10.symm
      rw [if_neg e10]
    | 12, hoi =>
      cases hoi
      have x9 : X 9 = .int .i64 d := h ⟨9, .data⟩ (by simp) (by rfl)
      have x11 : X 11 = .int .i64 note := h ⟨11, .data⟩ (by simp) (by rfl)
      have x8 : X 8 = .bool false := h ⟨8, .chain⟩ (by simp) (by rfl)
      clear h
      refine wpOp_do rfl ?_ ?_
      · show Region.wanted _ (yielded _ _) = true
        simp only [x8, x9, x11]
        rfl
      simp only [x8, x9, x11]
      go_simp
      go_at_call 20
      refine (hasNote_is d note HD.out.1 HD.out.2 _ HN.out _).mono ?_
      rintro x w6 ⟨rfl, hb⟩
      go_simp
      refine Stepped.mk2 (fun j => if j = 12 then .bool false else if j = 8 then .bool false else if j = 9 then .int .i64 d else if j = 11 then .int .i64 note else X j) (fun j hj => ?_) rfl (hR.next hb)
      rw [if_neg hj]
      by_cases e8 : j = 8
      · subst e8; exact x8.symm
      rw [if_neg e8]
      by_cases e9 : j = 9
      · subst e9; exact x9.symm
      rw [if_neg e9]
      by_cases e11 : j = 11
      · subst e11; exact x11.symm
      rw [if_neg e11]
    | 13, hoi =>
      cases hoi
      have x12 : X 12 = .bool false := h ⟨12, .data⟩ (by simp) (by rfl)
      have x8 : X 8 = .bool false := h ⟨8, .guard⟩ (by simp) (by rfl)
      clear h
      refine wpOp_do rfl ?_ ?_
      · show Region.wanted _ (yielded _ _) = true
        simp only [x8, x12]
        rfl
      simp only [x8, x12]
      go_simp
      refine Stepped.mk2 (fun j => if j = 13 then .bool true else if j = 8 then .bool false else if j = 12 then .bool false else X j) (fun j hj => ?_) rfl hR
      rw [if_neg hj]
      by_cases e8 : j = 8
      · subst e8; exact x8.symm
      rw [if_neg e8]
      by_cases e12 : j = 12
      · subst e12; exact x12.symm
      rw [if_neg e12]
    | 14, hoi =>
      cases hoi
      have x8 : X 8 = .bool false := h ⟨8, .data⟩ (by simp) (by rfl)
      have x13 : X 13 = .bool true := h ⟨13, .data⟩ (by simp) (by rfl)
      clear h
      refine wpOp_do rfl rfl ?_
      simp only [x8, x13]
      go_simp
      refine Stepped.mk2 (fun j => if j = 14 then .bool true else if j = 8 then .bool false else if j = 13 then .bool true else X j) (fun j hj => ?_) rfl hR
      rw [if_neg hj]
      by_cases e8 : j = 8
      · subst e8; exact x8.symm
      rw [if_neg e8]
      by_cases e13 : j = 13
      · subst e13; exact x13.symm
      rw [if_neg e13]
    | 15, hoi =>
      cases hoi
      have x14 : X 14 = .bool true := h ⟨14, .data⟩ (by simp) (by rfl)
      have x12 : X 12 = .bool false := h ⟨12, .chain⟩ (by simp) (by rfl)
      clear h
      refine wpOp_do rfl rfl ?_
      simp only [x12, x14]
      go_simp
      refine Stepped.mk2 (fun j => if j = 15 then .bool true else if j = 12 then .bool false else if j = 14 then .bool true else X j) (fun j hj => ?_) rfl hR
      rw [if_neg hj]
      by_cases e12 : j = 12
      · subst e12; exact x12.symm
      rw [if_neg e12]
      by_cases e14 : j = 14
      · subst e14; exact x14.symm
      rw [if_neg e14]
    | 16, hoi =>
      cases hoi
      have x15 : X 15 = .bool true := h ⟨15, .guard⟩ (by simp) (by rfl)
      refine wpOp_skip rfl ?_ ⟨?_, hR⟩
      · show Region.wanted _ (yielded _ _) = false
        simp only [x15]
        rfl
      · rfl
    | 17, hoi =>
      cases hoi
      have x16 : X 16 = undef := h ⟨16, .data⟩ (by simp) (by rfl)
      have x15 : X 15 = .bool true := h ⟨15, .guard⟩ (by simp) (by rfl)
      refine wpOp_skip rfl ?_ ⟨?_, hR⟩
      · show Region.wanted _ (yielded _ _) = false
        simp only [x15, x16]
        rfl
      · rfl
    | 18, hoi =>
      cases hoi
      have x15 : X 15 = .bool true := h ⟨15, .guard⟩ (by simp) (by rfl)
      refine wpOp_skip rfl ?_ ⟨?_, hR⟩
      · show Region.wanted _ (yielded _ _) = false
        simp only [x15]
        rfl
      · rfl
    | 19, hoi =>
      cases hoi
      have x18 : X 18 = undef := h ⟨18, .data⟩ (by simp) (by rfl)
      have x15 : X 15 = .bool true := h ⟨15, .chain⟩ (by simp) (by rfl)
      refine wpOp_skip rfl ?_ ⟨?_, hR⟩
      · show Region.wanted _ (yielded _ _) = false
        simp only [x15, x18]
        rfl
      · rfl
    | 20, hoi =>
      cases hoi
      have x17 : X 17 = undef := h ⟨17, .data⟩ (by simp) (by rfl)
      have x19 : X 19 = undef := h ⟨19, .data⟩ (by simp) (by rfl)
      have x15 : X 15 = .bool true := h ⟨15, .guard⟩ (by simp) (by rfl)
      refine wpOp_skip rfl ?_ ⟨?_, hR⟩
      · show Region.wanted _ (yielded _ _) = false
        simp only [x15, x17, x19]
        rfl
      · rfl
    | 21, hoi =>
      cases hoi
      have x15 : X 15 = .bool true := h ⟨15, .data⟩ (by simp) (by rfl)
      have x20 : X 20 = undef := h ⟨20, .data⟩ (by simp) (by rfl)
      clear h
      refine wpOp_do rfl rfl ?_
      simp only [x15, x20]
      go_simp
      refine Stepped.mk2 (fun j => if j = 21 then .bool true else if j = 15 then .bool true else if j = 20 then undef else X j) (fun j hj => ?_) rfl hR
      rw [if_neg hj]
      by_cases e15 : j = 15
      · subst e15; exact x15.symm
      rw [if_neg e15]
      by_cases e20 : j = 20
      · subst e20; exact x20.symm
      rw [if_neg e20]
    | i + 22, hoi => simp at hoi
  case hend =>
    intro w5 hR
    dsimp only
    go_wp2
    go_ret
    exact ⟨rfl, hR.bel HB⟩
set_option maxHeartbeats 4000000 in
set_option maxRecDepth 100000 in
theorem pvalid_D (d note inst vc va e p : Int) (d1 : 1 ≤ d) (d2 : d ≤ 6) (hc : cellB note inst vc va e p = true) (hn : noteD d note = true) (hv : volC d < vc) (w : World) : Calls Tryz.prog 7 #[.int .i64 d, .agg #[.int .i64 note, .int .i64 inst, .int .i64 vc, .int .i64 va, .int .i64 e, .int .i64 p]] w fun x w' => x = .returned (.bool false) ∧ BelowW w w' := by
  have HD := hid (And.intro d1 d2)
  have HC := hid hc
  have HN := hid hn
  have HW : Hid ((Lit.int .i64 d).wf = true) := hid (WalkArith.wf_i64 (by omega))
  have hv1 := decide_eq_true hv
  clear d1 d2 hc hn hv
  have HS := hid (Six.box note inst vc va e p w)
  have HB : BelowW w (w.alloc (.cells #[.int .i64 note, .int .i64 inst, .int .i64 vc, .int .i64 va, .int .i64 e, .int .i64 p] 23)) := below1 w _
  go_enter Tryz.func7, Tryz.ntmps7
  go_upto_region 1 with (fail)
  generalize w.alloc (.cells #[.int .i64 note, .int .i64 inst, .int .i64 vc, .int .i64 va, .int .i64 e, .int .i64 p] 23) = w1 at *
  generalize w.heap.size = g at *
  refine wp_region_pure (n := 22) (fun X => #[.int .i64 d, .agg #[.int .i64 note, .int .i64 inst, .int .i64 vc, .int .i64 va, .int .i64 e, .int .i64 p], undef, .pointer (some ⟨g, 0, none⟩), .bool false, X 0, X 1, X 2, X 3, X 4, X 5, X 6, X 7, X 8, X 9, X 10, X 11, X 12, X 13, X 14, X 15, X 16, X 17, X 18, X 19, X 20, X 21, undef, undef, undef, undef, undef, undef, undef, undef, undef, undef]) (fun j => match j with | 0 => .int .i64 d | 1 => .bool true | 2 => .bool false | 3 => .bool false | 4 => .agg #[.int .i64 note, .int .i64 inst, .int .i64 vc, .int .i64 va, .int .i64 e, .int .i64 p] | 5 => .bool true | 6 => .bool false | 7 => .bool false | 8 => .bool false | 9 => .int .i64 d | 10 => .pointer (some ⟨g, 0, none⟩) | 11 => .int .i64 note | 12 => .bool true | 13 => .bool false | 14 => .bool false | 15 => .bool false | 16 => .pointer (some ⟨g, 2, none⟩) | 17 => .int .i64 vc | 18 => .int .i64 d | 19 => .int .i64 (volC d) | 20 => .bool true | 21 => .bool true | _ => undef) (Six g note inst vc va e p w1) (fun j => match j with  | _ => undef) (by kernel_rfl) rfl (by kernel_rfl) rfl ?hR0 ?hfr ?hstep ?hend
  case hR0 => exact HS.out.drew
  case hfr =>
    intro X h
    simp only [h 0 (by decide), h 1 (by decide), h 2 (by decide), h 3 (by decide), h 4 (by decide), h 5 (by decide), h 6 (by decide), h 7 (by decide), h 8 (by decide), h 9 (by decide), h 10 (by decide), h 11 (by decide), h 12 (by decide), h 13 (by decide), h 14 (by decide), h 15 (by decide), h 16 (by decide), h 17 (by decide), h 18 (by decide), h 19 (by decide), h 20 (by decide), h 21 (by decide)]
  case hstep =>
    intro i oi hoi X w5 h hR
    match i, hoi with
    | 0, hoi =>
      cases hoi
      clear h
      refine wpOp_do rfl rfl ?_
      go_simp
      exact ⟨rfl, hR⟩
    | 1, hoi =>
      cases hoi
      have x0 : X 0 = .int .i64 d := h ⟨0, .data⟩ (by simp) (by rfl)
      clear h
      refine wpOp_do rfl rfl ?_
      simp only [x0]
      go_simp
      go_at_call 18
      refine (is_yes _ _ HD.out.1 HD.out.2).mono ?_
      rintro x w6 ⟨rfl, rfl⟩
      go_simp
      refine Stepped.mk2 (fun j => if j = 1 then .bool true else if j = 0 then .int .i64 d else X j) (fun j hj => ?_) rfl hR
      rw [if_neg hj]
      by_cases e0 : j = 0
      · subst e0; exact x0.symm
      rw [if_neg e0]
    | 2, hoi =>
      cases hoi
      have x1 : X 1 = .bool true := h ⟨1, .data⟩ (by simp) (by rfl)
      clear h
      refine wpOp_do rfl rfl ?_
      simp only [x1]
      go_simp
      refine Stepped.mk2 (fun j => if j = 2 then .bool false else if j = 1 then .bool true else X j) (fun j hj => ?_) rfl hR
      rw [if_neg hj]
      by_cases e1 : j = 1
      · subst e1; exact x1.symm
      rw [if_neg e1]
    | 3, hoi =>
      cases hoi
      have x2 : X 2 = .bool false := h ⟨2, .data⟩ (by simp) (by rfl)
      have x1 : X 1 = .bool true := h ⟨1, .chain⟩ (by simp) (by rfl)
      clear h
      refine wpOp_do rfl rfl ?_
      simp only [x1, x2]
      go_simp
      refine Stepped.mk2 (fun j => if j = 3 then .bool false else if j = 1 then .bool true else if j = 2 then .bool false else X j) (fun j hj => ?_) rfl hR
      rw [if_neg hj]
      by_cases e1 : j = 1
      · subst e1; exact x1.symm
      rw [if_neg e1]
      by_cases e2 : j = 2
      · subst e2; exact x2.symm
      rw [if_neg e2]
    | 4, hoi =>
      cases hoi
      have x3 : X 3 = .bool false := h ⟨3, .guard⟩ (by simp) (by rfl)
      clear h
      refine wpOp_do rfl ?_ ?_
      · show Region.wanted _ (yielded _ _) = true
        simp only [x3]
        rfl
      simp only [x3]
      obtain ⟨q0, q1, q2, q3, q4, q5, -⟩ := id hR
      go_simp
      refine Stepped.mk2 (fun j => if j = 4 then .agg #[.int .i64 note, .int .i64 inst, .int .i64 vc, .int .i64 va, .int .i64 e, .int .i64 p] else if j = 3 then .bool false else X j) (fun j hj => ?_) rfl hR
      rw [if_neg hj]
      by_cases e3 : j = 3
      · subst e3; exact x3.symm
      rw [if_neg e3]
    | 5, hoi =>
      cases hoi
      have x4 : X 4 = .agg #[.int .i64 note, .int .i64 inst, .int .i64 vc, .int .i64 va, .int .i64 e, .int .i64 p] := h ⟨4, .data⟩ (by simp) (by rfl)
      have x3 : X 3 = .bool false := h ⟨3, .chain⟩ (by simp) (by rfl)
      clear h
      refine wpOp_do rfl ?_ ?_
      · show Region.wanted _ (yielded _ _) = true
        simp only [x3, x4]
        rfl
      simp only [x3, x4]
      go_simp
      go_at_call 19
      refine (vcell19_is note inst vc va e p _ HC.out _).mono ?_
      rintro x w6 ⟨rfl, hb⟩
      go_simp
      refine Stepped.mk2 (fun j => if j = 5 then .bool true else if j = 3 then .bool false else if j = 4 then .agg #[.int .i64 note, .int .i64 inst, .int .i64 vc, .int .i64 va, .int .i64 e, .int .i64 p] else X j) (fun j hj => ?_) rfl (hR.next hb)
      rw [if_neg hj]
      by_cases e3 : j = 3
      · subst e3; exact x3.symm
      rw [if_neg e3]
      by_cases e4 : j = 4
      · subst e4; exact x4.symm
      rw [if_neg e4]
    | 6, hoi =>
      cases hoi
      have x5 : X 5 = .bool true := h ⟨5, .data⟩ (by simp) (by rfl)
      have x3 : X 3 = .bool false := h ⟨3, .guard⟩ (by simp) (by rfl)
      clear h
      refine wpOp_do rfl ?_ ?_
      · show Region.wanted _ (yielded _ _) = true
        simp only [x3, x5]
        rfl
      simp only [x3, x5]
      go_simp
      refine Stepped.mk2 (fun j => if j = 6 then .bool false else if j = 3 then .bool false else if j = 5 then .bool true else X j) (fun j hj => ?_) rfl hR
      rw [if_neg hj]
      by_cases e3 : j = 3
      · subst e3; exact x3.symm
      rw [if_neg e3]
      by_cases e5 : j = 5
      · subst e5; exact x5.symm
      rw [if_neg e5]
    | 7, hoi =>
      cases hoi
      have x3 : X 3 = .bool false := h ⟨3, .data⟩ (by simp) (by rfl)
      have x6 : X 6 = .bool false := h ⟨6, .data⟩ (by simp) (by rfl)
      clear h
      refine wpOp_do rfl rfl ?_
      simp only [x3, x6]
      go_simp
      refine Stepped.mk2 (fun j => if j = 7 then .bool false else if j = 3 then .bool false else if j = 6 then .bool false else X j) (fun j hj => ?_) rfl hR
      rw [if_neg hj]
      by_cases e3 : j = 3
      · subst e3; exact x3.symm
      rw [if_neg e3]
      by_cases e6 : j = 6
      · subst e6; exact x6.symm
      rw [if_neg e6]
    | 8, hoi =>
      cases hoi
      have x7 : X 7 = .bool false := h ⟨7, .data⟩ (by simp) (by rfl)
      have x5 : X 5 = .bool true := h ⟨5, .chain⟩ (by simp) (by rfl)
      clear h
      refine wpOp_do rfl rfl ?_
      simp only [x5, x7]
      go_simp
      refine Stepped.mk2 (fun j => if j = 8 then .bool false else if j = 5 then .bool true else if j = 7 then .bool false else X j) (fun j hj => ?_) rfl hR
      rw [if_neg hj]
      by_cases e5 : j = 5
      · subst e5; exact x5.symm
      rw [if_neg e5]
      by_cases e7 : j = 7
      · subst e7; exact x7.symm
      rw [if_neg e7]
    | 9, hoi =>
      cases hoi
      have x8 : X 8 = .bool false := h ⟨8, .guard⟩ (by simp) (by rfl)
      clear h
      refine wpOp_do rfl ?_ ?_
      · show Region.wanted _ (yielded _ _) = true
        simp only [x8]
        rfl
      simp only [x8]
      go_simp
      refine Stepped.mk2 (fun j => if j = 9 then .int .i64 d else if j = 8 then .bool false else X j) (fun j hj => ?_) rfl hR
      rw [if_neg hj]
      by_cases e8 : j = 8
      · subst e8; exact x8.symm
      rw [if_neg e8]
    | 10, hoi =>
      cases hoi
      have x8 : X 8 = .bool false := h ⟨8, .guard⟩ (by simp) (by rfl)
      clear h
      refine wpOp_do rfl ?_ ?_
      · show Region.wanted _ (yielded _ _) = true
        simp only [x8]
        rfl
      simp only [x8]
      go_simp
      refine Stepped.mk2 (fun j => if j = 10 then .pointer (some ⟨g, 0, none⟩) else if j = 8 then .bool false else X j) (fun j hj => ?_) rfl hR
      rw [if_neg hj]
      by_cases e8 : j = 8
      · subst e8; exact x8.symm
      rw [if_neg e8]
    | 11, hoi =>
      cases hoi
      have x10 : X 10 = .pointer (some ⟨g, 0, none⟩) := h ⟨10, .data⟩ (by simp) (by rfl)
      have x8 : X 8 = .bool false := h ⟨8, .guard⟩ (by simp) (by rfl)
      clear h
      refine wpOp_do rfl ?_ ?_
      · show Region.wanted _ (yielded _ _) = true
        simp only [x8, x10]
        rfl
      simp only [x8, x10]
      obtain ⟨q0, q1, q2, q3, q4, q5, -⟩ := id hR
      go_simp
      refine Stepped.mk2 (fun j => if j = 11 then .int .i64 note else if j = 8 then .bool false else if j = 10 then .pointer (some ⟨g, 0, none⟩) else X j) (fun j hj => ?_) rfl hR
      rw [if_neg hj]
      by_cases e8 : j = 8
      · subst e8; exact x8.symm
      rw [if_neg e8]
      by_cases e10 : j = 10
      · subst e10; exact x10.symm
      rw [if_neg e10]
    | 12, hoi =>
      cases hoi
      have x9 : X 9 = .int .i64 d := h ⟨9, .data⟩ (by simp) (by rfl)
      have x11 : X 11 = .int .i64 note := h ⟨11, .data⟩ (by simp) (by rfl)
      have x8 : X 8 = .bool false := h ⟨8, .chain⟩ (by simp) (by rfl)
      clear h
      refine wpOp_do rfl ?_ ?_
      · show Region.wanted _ (yielded _ _) = true
        simp only [x8, x9, x11]
        rfl
      simp only [x8, x9, x11]
      go_simp
      go_at_call 20
      refine (hasNote_is d note HD.out.1 HD.out.2 _ HN.out _).mono ?_
      rintro x w6 ⟨rfl, hb⟩
      go_simp
      refine Stepped.mk2 (fun j => if j = 12 then .bool true else if j = 8 then .bool false else if j = 9 then .int .i64 d else if j = 11 then .int .i64 note else X j) (fun j hj => ?_) rfl (hR.next hb)
      rw [if_neg hj]
      by_cases e8 : j = 8
      · subst e8; exact x8.symm
      rw [if_neg e8]
      by_cases e9 : j = 9
      · subst e9; exact x9.symm
      rw [if_neg e9]
      by_cases e11 : j = 11
      · subst e11; exact x11.symm
      rw [if_neg e11]
    | 13, hoi =>
      cases hoi
      have x12 : X 12 = .bool true := h ⟨12, .data⟩ (by simp) (by rfl)
      have x8 : X 8 = .bool false := h ⟨8, .guard⟩ (by simp) (by rfl)
      clear h
      refine wpOp_do rfl ?_ ?_
      · show Region.wanted _ (yielded _ _) = true
        simp only [x8, x12]
        rfl
      simp only [x8, x12]
      go_simp
      refine Stepped.mk2 (fun j => if j = 13 then .bool false else if j = 8 then .bool false else if j = 12 then .bool true else X j) (fun j hj => ?_) rfl hR
      rw [if_neg hj]
      by_cases e8 : j = 8
      · subst e8; exact x8.symm
      rw [if_neg e8]
      by_cases e12 : j = 12
      · subst e12; exact x12.symm
      rw [if_neg e12]
    | 14, hoi =>
      cases hoi
      have x8 : X 8 = .bool false := h ⟨8, .data⟩ (by simp) (by rfl)
      have x13 : X 13 = .bool false := h ⟨13, .data⟩ (by simp) (by rfl)
      clear h
      refine wpOp_do rfl rfl ?_
      simp only [x8, x13]
      go_simp
      refine Stepped.mk2 (fun j => if j = 14 then .bool false else if j = 8 then .bool false else if j = 13 then .bool false else X j) (fun j hj => ?_) rfl hR
      rw [if_neg hj]
      by_cases e8 : j = 8
      · subst e8; exact x8.symm
      rw [if_neg e8]
      by_cases e13 : j = 13
      · subst e13; exact x13.symm
      rw [if_neg e13]
    | 15, hoi =>
      cases hoi
      have x14 : X 14 = .bool false := h ⟨14, .data⟩ (by simp) (by rfl)
      have x12 : X 12 = .bool true := h ⟨12, .chain⟩ (by simp) (by rfl)
      clear h
      refine wpOp_do rfl rfl ?_
      simp only [x12, x14]
      go_simp
      refine Stepped.mk2 (fun j => if j = 15 then .bool false else if j = 12 then .bool true else if j = 14 then .bool false else X j) (fun j hj => ?_) rfl hR
      rw [if_neg hj]
      by_cases e12 : j = 12
      · subst e12; exact x12.symm
      rw [if_neg e12]
      by_cases e14 : j = 14
      · subst e14; exact x14.symm
      rw [if_neg e14]
    | 16, hoi =>
      cases hoi
      have x15 : X 15 = .bool false := h ⟨15, .guard⟩ (by simp) (by rfl)
      clear h
      refine wpOp_do rfl ?_ ?_
      · show Region.wanted _ (yielded _ _) = true
        simp only [x15]
        rfl
      simp only [x15]
      go_simp
      refine Stepped.mk2 (fun j => if j = 16 then .pointer (some ⟨g, 2, none⟩) else if j = 15 then .bool false else X j) (fun j hj => ?_) rfl hR
      rw [if_neg hj]
      by_cases e15 : j = 15
      · subst e15; exact x15.symm
      rw [if_neg e15]
    | 17, hoi =>
      cases hoi
      have x16 : X 16 = .pointer (some ⟨g, 2, none⟩) := h ⟨16, .data⟩ (by simp) (by rfl)
      have x15 : X 15 = .bool false := h ⟨15, .guard⟩ (by simp) (by rfl)
      clear h
      refine wpOp_do rfl ?_ ?_
      · show Region.wanted _ (yielded _ _) = true
        simp only [x15, x16]
        rfl
      simp only [x15, x16]
      obtain ⟨q0, q1, q2, q3, q4, q5, -⟩ := id hR
      go_simp
      refine Stepped.mk2 (fun j => if j = 17 then .int .i64 vc else if j = 15 then .bool false else if j = 16 then .pointer (some ⟨g, 2, none⟩) else X j) (fun j hj => ?_) rfl hR
      rw [if_neg hj]
      by_cases e15 : j = 15
      · subst e15; exact x15.symm
      rw [if_neg e15]
      by_cases e16 : j = 16
      · subst e16; exact x16.symm
      rw [if_neg e16]
    | 18, hoi =>
      cases hoi
      have x15 : X 15 = .bool false := h ⟨15, .guard⟩ (by simp) (by rfl)
      clear h
      refine wpOp_do rfl ?_ ?_
      · show Region.wanted _ (yielded _ _) = true
        simp only [x15]
        rfl
      simp only [x15]
      go_simp
      refine Stepped.mk2 (fun j => if j = 18 then .int .i64 d else if j = 15 then .bool false else X j) (fun j hj => ?_) rfl hR
      rw [if_neg hj]
      by_cases e15 : j = 15
      · subst e15; exact x15.symm
      rw [if_neg e15]
    | 19, hoi =>
      cases hoi
      have x18 : X 18 = .int .i64 d := h ⟨18, .data⟩ (by simp) (by rfl)
      have x15 : X 15 = .bool false := h ⟨15, .chain⟩ (by simp) (by rfl)
      clear h
      refine wpOp_do rfl ?_ ?_
      · show Region.wanted _ (yielded _ _) = true
        simp only [x15, x18]
        rfl
      simp only [x15, x18]
      go_simp
      go_at_call 21
      refine (volCmds_any d _ HW.out).mono ?_
      rintro x w6 ⟨rfl, hb⟩
      go_simp
      refine Stepped.mk2 (fun j => if j = 19 then .int .i64 (volC d) else if j = 15 then .bool false else if j = 18 then .int .i64 d else X j) (fun j hj => ?_) rfl (hR.next hb)
      rw [if_neg hj]
      by_cases e15 : j = 15
      · subst e15; exact x15.symm
      rw [if_neg e15]
      by_cases e18 : j = 18
      · subst e18; exact x18.symm
      rw [if_neg e18]
    | 20, hoi =>
      cases hoi
      have x17 : X 17 = .int .i64 vc := h ⟨17, .data⟩ (by simp) (by rfl)
      have x19 : X 19 = .int .i64 (volC d) := h ⟨19, .data⟩ (by simp) (by rfl)
      have x15 : X 15 = .bool false := h ⟨15, .guard⟩ (by simp) (by rfl)
      clear h
      refine wpOp_do rfl ?_ ?_
      · show Region.wanted _ (yielded _ _) = true
        simp only [x15, x17, x19]
        rfl
      simp only [x15, x17, x19]
      go_simp
      refine Stepped.mk2 (fun j => if j = 20 then .bool true else if j = 15 then .bool false else if j = 17 then .int .i64 vc else if j = 19 then .int .i64 (volC d) else X j) (fun j hj => ?_) rfl hR
      rw [if_neg hj]
      by_cases e15 : j = 15
      · subst e15; exact x15.symm
      rw [if_neg e15]
      by_cases e17 : j = 17
      · subst e17; exact x17.symm
      rw [if_neg e17]
      by_cases e19 : j = 19
      · subst e19; exact x19.symm
      rw [if_neg e19]
    | 21, hoi =>
      cases hoi
      have x15 : X 15 = .bool false := h ⟨15, .data⟩ (by simp) (by rfl)
      have x20 : X 20 = .bool true := h ⟨20, .data⟩ (by simp) (by rfl)
      clear h
      refine wpOp_do rfl rfl ?_
      simp only [x15, x20]
      go_simp
      refine Stepped.mk2 (fun j => if j = 21 then .bool true else if j = 15 then .bool false else if j = 20 then .bool true else X j) (fun j hj => ?_) rfl hR
      rw [if_neg hj]
      by_cases e15 : j = 15
      · subst e15; exact x15.symm
      rw [if_neg e15]
      by_cases e20 : j = 20
      · subst e20; exact x20.symm
      rw [if_neg e20]
    | i + 22, hoi => simp at hoi
  case hend =>
    intro w5 hR
    dsimp only
    go_wp2
    go_ret
    exact ⟨rfl, hR.bel HB⟩
set_option maxHeartbeats 4000000 in
set_option maxRecDepth 100000 in
theorem pvalid_E (d note inst vc va e p : Int) (d1 : 1 ≤ d) (d2 : d ≤ 6) (hc : cellB note inst vc va e p = true) (hn : noteD d note = true) (hv : vc ≤ volC d) (he : e = 0) (w : World) : Calls Tryz.prog 7 #[.int .i64 d, .agg #[.int .i64 note, .int .i64 inst, .int .i64 vc, .int .i64 va, .int .i64 e, .int .i64 p]] w fun x w' => x = .returned (.bool true) ∧ BelowW w w' := by
  have te : (e == 0) = true := beq_true he
  have HD := hid (And.intro d1 d2)
  have HC := hid hc
  have HN := hid hn
  have HW : Hid ((Lit.int .i64 d).wf = true) := hid (WalkArith.wf_i64 (by omega))
  have hv1 := decide_eq_false (show ¬ volC d < vc by omega)
  clear d1 d2 hc hn hv he
  have HS := hid (Six.box note inst vc va e p w)
  have HB : BelowW w (w.alloc (.cells #[.int .i64 note, .int .i64 inst, .int .i64 vc, .int .i64 va, .int .i64 e, .int .i64 p] 23)) := below1 w _
  go_enter Tryz.func7, Tryz.ntmps7
  go_upto_region 1 with (fail)
  generalize w.alloc (.cells #[.int .i64 note, .int .i64 inst, .int .i64 vc, .int .i64 va, .int .i64 e, .int .i64 p] 23) = w1 at *
  generalize w.heap.size = g at *
  refine wp_region_pure (n := 22) (fun X => #[.int .i64 d, .agg #[.int .i64 note, .int .i64 inst, .int .i64 vc, .int .i64 va, .int .i64 e, .int .i64 p], undef, .pointer (some ⟨g, 0, none⟩), .bool false, X 0, X 1, X 2, X 3, X 4, X 5, X 6, X 7, X 8, X 9, X 10, X 11, X 12, X 13, X 14, X 15, X 16, X 17, X 18, X 19, X 20, X 21, undef, undef, undef, undef, undef, undef, undef, undef, undef, undef]) (fun j => match j with | 0 => .int .i64 d | 1 => .bool true | 2 => .bool false | 3 => .bool false | 4 => .agg #[.int .i64 note, .int .i64 inst, .int .i64 vc, .int .i64 va, .int .i64 e, .int .i64 p] | 5 => .bool true | 6 => .bool false | 7 => .bool false | 8 => .bool false | 9 => .int .i64 d | 10 => .pointer (some ⟨g, 0, none⟩) | 11 => .int .i64 note | 12 => .bool true | 13 => .bool false | 14 => .bool false | 15 => .bool false | 16 => .pointer (some ⟨g, 2, none⟩) | 17 => .int .i64 vc | 18 => .int .i64 d | 19 => .int .i64 (volC d) | 20 => .bool false | 21 => .bool false | _ => undef) (Six g note inst vc va e p w1) (fun j => match j with  | _ => undef) (by kernel_rfl) rfl (by kernel_rfl) rfl ?hR0 ?hfr ?hstep ?hend
  case hR0 => exact HS.out.drew
  case hfr =>
    intro X h
    simp only [h 0 (by decide), h 1 (by decide), h 2 (by decide), h 3 (by decide), h 4 (by decide), h 5 (by decide), h 6 (by decide), h 7 (by decide), h 8 (by decide), h 9 (by decide), h 10 (by decide), h 11 (by decide), h 12 (by decide), h 13 (by decide), h 14 (by decide), h 15 (by decide), h 16 (by decide), h 17 (by decide), h 18 (by decide), h 19 (by decide), h 20 (by decide), h 21 (by decide)]
  case hstep =>
    intro i oi hoi X w5 h hR
    match i, hoi with
    | 0, hoi =>
      cases hoi
      clear h
      refine wpOp_do rfl rfl ?_
      go_simp
      exact ⟨rfl, hR⟩
    | 1, hoi =>
      cases hoi
      have x0 : X 0 = .int .i64 d := h ⟨0, .data⟩ (by simp) (by rfl)
      clear h
      refine wpOp_do rfl rfl ?_
      simp only [x0]
      go_simp
      go_at_call 18
      refine (is_yes _ _ HD.out.1 HD.out.2).mono ?_
      rintro x w6 ⟨rfl, rfl⟩
      go_simp
      refine Stepped.mk2 (fun j => if j = 1 then .bool true else if j = 0 then .int .i64 d else X j) (fun j hj => ?_) rfl hR
      rw [if_neg hj]
      by_cases e0 : j = 0
      · subst e0; exact x0.symm
      rw [if_neg e0]
    | 2, hoi =>
      cases hoi
      have x1 : X 1 = .bool true := h ⟨1, .data⟩ (by simp) (by rfl)
      clear h
      refine wpOp_do rfl rfl ?_
      simp only [x1]
      go_simp
      refine Stepped.mk2 (fun j => if j = 2 then .bool false else if j = 1 then .bool true else X j) (fun j hj => ?_) rfl hR
      rw [if_neg hj]
      by_cases e1 : j = 1
      · subst e1; exact x1.symm
      rw [if_neg e1]
    | 3, hoi =>
      cases hoi
      have x2 : X 2 = .bool false := h ⟨2, .data⟩ (by simp) (by rfl)
      have x1 : X 1 = .bool true := h ⟨1, .chain⟩ (by simp) (by rfl)
      clear h
      refine wpOp_do rfl rfl ?_
      simp only [x1, x2]
      go_simp
      refine Stepped.mk2 (fun j => if j = 3 then .bool false else if j = 1 then .bool true else if j = 2 then .bool false else X j) (fun j hj => ?_) rfl hR
      rw [if_neg hj]
      by_cases e1 : j = 1
      · subst e1; exact x1.symm
      rw [if_neg e1]
      by_cases e2 : j = 2
      · subst e2; exact x2.symm
      rw [if_neg e2]
    | 4, hoi =>
      cases hoi
      have x3 : X 3 = .bool false := h ⟨3, .guard⟩ (by simp) (by rfl)
      clear h
      refine wpOp_do rfl ?_ ?_
      · show Region.wanted _ (yielded _ _) = true
        simp only [x3]
        rfl
      simp only [x3]
      obtain ⟨q0, q1, q2, q3, q4, q5, -⟩ := id hR
      go_simp
      refine Stepped.mk2 (fun j => if j = 4 then .agg #[.int .i64 note, .int .i64 inst, .int .i64 vc, .int .i64 va, .int .i64 e, .int .i64 p] else if j = 3 then .bool false else X j) (fun j hj => ?_) rfl hR
      rw [if_neg hj]
      by_cases e3 : j = 3
      · subst e3; exact x3.symm
      rw [if_neg e3]
    | 5, hoi =>
      cases hoi
      have x4 : X 4 = .agg #[.int .i64 note, .int .i64 inst, .int .i64 vc, .int .i64 va, .int .i64 e, .int .i64 p] := h ⟨4, .data⟩ (by simp) (by rfl)
      have x3 : X 3 = .bool false := h ⟨3, .chain⟩ (by simp) (by rfl)
      clear h
      refine wpOp_do rfl ?_ ?_
      · show Region.wanted _ (yielded _ _) = true
        simp only [x3, x4]
        rfl
      simp only [x3, x4]
      go_simp
      go_at_call 19
      refine (vcell19_is note inst vc va e p _ HC.out _).mono ?_
      rintro x w6 ⟨rfl, hb⟩
      go_simp
      refine Stepped.mk2 (fun j => if j = 5 then .bool true else if j = 3 then .bool false else if j = 4 then .agg #[.int .i64 note, .int .i64 inst, .int .i64 vc, .int .i64 va, .int .i64 e, .int .i64 p] else X j) (fun j hj => ?_) rfl (hR.next hb)
      rw [if_neg hj]
      by_cases e3 : j = 3
      · subst e3; exact x3.symm
      rw [if_neg e3]
      by_cases e4 : j = 4
      · subst e4; exact x4.symm
      rw [if_neg e4]
    | 6, hoi =>
      cases hoi
      have x5 : X 5 = .bool true := h ⟨5, .data⟩ (by simp) (by rfl)
      have x3 : X 3 = .bool false := h ⟨3, .guard⟩ (by simp) (by rfl)
      clear h
      refine wpOp_do rfl ?_ ?_
      · show Region.wanted _ (yielded _ _) = true
        simp only [x3, x5]
        rfl
      simp only [x3, x5]
      go_simp
      refine Stepped.mk2 (fun j => if j = 6 then .bool false else if j = 3 then .bool false else if j = 5 then .bool true else X j) (fun j hj => ?_) rfl hR
      rw [if_neg hj]
      by_cases e3 : j = 3
      · subst e3; exact x3.symm
      rw [if_neg e3]
      by_cases e5 : j = 5
      · subst e5; exact x5.symm
      rw [if_neg e5]
    | 7, hoi =>
      cases hoi
      have x3 : X 3 = .bool false := h ⟨3, .data⟩ (by simp) (by rfl)
      have x6 : X 6 = .bool false := h ⟨6, .data⟩ (by simp) (by rfl)
      clear h
      refine wpOp_do rfl rfl ?_
      simp only [x3, x6]
      go_simp
      refine Stepped.mk2 (fun j => if j = 7 then .bool false else if j = 3 then .bool false else if j = 6 then .bool false else X j) (fun j hj => ?_) rfl hR
      rw [if_neg hj]
      by_cases e3 : j = 3
      · subst e3; exact x3.symm
      rw [if_neg e3]
      by_cases e6 : j = 6
      · subst e6; exact x6.symm
      rw [if_neg e6]
    | 8, hoi =>
      cases hoi
      have x7 : X 7 = .bool false := h ⟨7, .data⟩ (by simp) (by rfl)
      have x5 : X 5 = .bool true := h ⟨5, .chain⟩ (by simp) (by rfl)
      clear h
      refine wpOp_do rfl rfl ?_
      simp only [x5, x7]
      go_simp
      refine Stepped.mk2 (fun j => if j = 8 then .bool false else if j = 5 then .bool true else if j = 7 then .bool false else X j) (fun j hj => ?_) rfl hR
      rw [if_neg hj]
      by_cases e5 : j = 5
      · subst e5; exact x5.symm
      rw [if_neg e5]
      by_cases e7 : j = 7
      · subst e7; exact x7.symm
      rw [if_neg e7]
    | 9, hoi =>
      cases hoi
      have x8 : X 8 = .bool false := h ⟨8, .guard⟩ (by simp) (by rfl)
      clear h
      refine wpOp_do rfl ?_ ?_
      · show Region.wanted _ (yielded _ _) = true
        simp only [x8]
        rfl
      simp only [x8]
      go_simp
      refine Stepped.mk2 (fun j => if j = 9 then .int .i64 d else if j = 8 then .bool false else X j) (fun j hj => ?_) rfl hR
      rw [if_neg hj]
      by_cases e8 : j = 8
      · subst e8; exact x8.symm
      rw [if_neg e8]
    | 10, hoi =>
      cases hoi
      have x8 : X 8 = .bool false := h ⟨8, .guard⟩ (by simp) (by rfl)
      clear h
      refine wpOp_do rfl ?_ ?_
      · show Region.wanted _ (yielded _ _) = true
        simp only [x8]
        rfl
      simp only [x8]
      go_simp
      refine Stepped.mk2 (fun j => if j = 10 then .pointer (some ⟨g, 0, none⟩) else if j = 8 then .bool false else X j) (fun j hj => ?_) rfl hR
      rw [if_neg hj]
      by_cases e8 : j = 8
      · subst e8; exact x8.symm
      rw [if_neg e8]
    | 11, hoi =>
      cases hoi
      have x10 : X 10 = .pointer (some ⟨g, 0, none⟩) := h ⟨10, .data⟩ (by simp) (by rfl)
      have x8 : X 8 = .bool false := h ⟨8, .guard⟩ (by simp) (by rfl)
      clear h
      refine wpOp_do rfl ?_ ?_
      · show Region.wanted _ (yielded _ _) = true
        simp only [x8, x10]
        rfl
      simp only [x8, x10]
      obtain ⟨q0, q1, q2, q3, q4, q5, -⟩ := id hR
      go_simp
      refine Stepped.mk2 (fun j => if j = 11 then .int .i64 note else if j = 8 then .bool false else if j = 10 then .pointer (some ⟨g, 0, none⟩) else X j) (fun j hj => ?_) rfl hR
      rw [if_neg hj]
      by_cases e8 : j = 8
      · subst e8; exact x8.symm
      rw [if_neg e8]
      by_cases e10 : j = 10
      · subst e10; exact x10.symm
      rw [if_neg e10]
    | 12, hoi =>
      cases hoi
      have x9 : X 9 = .int .i64 d := h ⟨9, .data⟩ (by simp) (by rfl)
      have x11 : X 11 = .int .i64 note := h ⟨11, .data⟩ (by simp) (by rfl)
      have x8 : X 8 = .bool false := h ⟨8, .chain⟩ (by simp) (by rfl)
      clear h
      refine wpOp_do rfl ?_ ?_
      · show Region.wanted _ (yielded _ _) = true
        simp only [x8, x9, x11]
        rfl
      simp only [x8, x9, x11]
      go_simp
      go_at_call 20
      refine (hasNote_is d note HD.out.1 HD.out.2 _ HN.out _).mono ?_
      rintro x w6 ⟨rfl, hb⟩
      go_simp
      refine Stepped.mk2 (fun j => if j = 12 then .bool true else if j = 8 then .bool false else if j = 9 then .int .i64 d else if j = 11 then .int .i64 note else X j) (fun j hj => ?_) rfl (hR.next hb)
      rw [if_neg hj]
      by_cases e8 : j = 8
      · subst e8; exact x8.symm
      rw [if_neg e8]
      by_cases e9 : j = 9
      · subst e9; exact x9.symm
      rw [if_neg e9]
      by_cases e11 : j = 11
      · subst e11; exact x11.symm
      rw [if_neg e11]
    | 13, hoi =>
      cases hoi
      have x12 : X 12 = .bool true := h ⟨12, .data⟩ (by simp) (by rfl)
      have x8 : X 8 = .bool false := h ⟨8, .guard⟩ (by simp) (by rfl)
      clear h
      refine wpOp_do rfl ?_ ?_
      · show Region.wanted _ (yielded _ _) = true
        simp only [x8, x12]
        rfl
      simp only [x8, x12]
      go_simp
      refine Stepped.mk2 (fun j => if j = 13 then .bool false else if j = 8 then .bool false else if j = 12 then .bool true else X j) (fun j hj => ?_) rfl hR
      rw [if_neg hj]
      by_cases e8 : j = 8
      · subst e8; exact x8.symm
      rw [if_neg e8]
      by_cases e12 : j = 12
      · subst e12; exact x12.symm
      rw [if_neg e12]
    | 14, hoi =>
      cases hoi
      have x8 : X 8 = .bool false := h ⟨8, .data⟩ (by simp) (by rfl)
      have x13 : X 13 = .bool false := h ⟨13, .data⟩ (by simp) (by rfl)
      clear h
      refine wpOp_do rfl rfl ?_
      simp only [x8, x13]
      go_simp
      refine Stepped.mk2 (fun j => if j = 14 then .bool false else if j = 8 then .bool false else if j = 13 then .bool false else X j) (fun j hj => ?_) rfl hR
      rw [if_neg hj]
      by_cases e8 : j = 8
      · subst e8; exact x8.symm
      rw [if_neg e8]
      by_cases e13 : j = 13
      · subst e13; exact x13.symm
      rw [if_neg e13]
    | 15, hoi =>
      cases hoi
      have x14 : X 14 = .bool false := h ⟨14, .data⟩ (by simp) (by rfl)
      have x12 : X 12 = .bool true := h ⟨12, .chain⟩ (by simp) (by rfl)
      clear h
      refine wpOp_do rfl rfl ?_
      simp only [x12, x14]
      go_simp
      refine Stepped.mk2 (fun j => if j = 15 then .bool false else if j = 12 then .bool true else if j = 14 then .bool false else X j) (fun j hj => ?_) rfl hR
      rw [if_neg hj]
      by_cases e12 : j = 12
      · subst e12; exact x12.symm
      rw [if_neg e12]
      by_cases e14 : j = 14
      · subst e14; exact x14.symm
      rw [if_neg e14]
    | 16, hoi =>
      cases hoi
      have x15 : X 15 = .bool false := h ⟨15, .guard⟩ (by simp) (by rfl)
      clear h
      refine wpOp_do rfl ?_ ?_
      · show Region.wanted _ (yielded _ _) = true
        simp only [x15]
        rfl
      simp only [x15]
      go_simp
      refine Stepped.mk2 (fun j => if j = 16 then .pointer (some ⟨g, 2, none⟩) else if j = 15 then .bool false else X j) (fun j hj => ?_) rfl hR
      rw [if_neg hj]
      by_cases e15 : j = 15
      · subst e15; exact x15.symm
      rw [if_neg e15]
    | 17, hoi =>
      cases hoi
      have x16 : X 16 = .pointer (some ⟨g, 2, none⟩) := h ⟨16, .data⟩ (by simp) (by rfl)
      have x15 : X 15 = .bool false := h ⟨15, .guard⟩ (by simp) (by rfl)
      clear h
      refine wpOp_do rfl ?_ ?_
      · show Region.wanted _ (yielded _ _) = true
        simp only [x15, x16]
        rfl
      simp only [x15, x16]
      obtain ⟨q0, q1, q2, q3, q4, q5, -⟩ := id hR
      go_simp
      refine Stepped.mk2 (fun j => if j = 17 then .int .i64 vc else if j = 15 then .bool false else if j = 16 then .pointer (some ⟨g, 2, none⟩) else X j) (fun j hj => ?_) rfl hR
      rw [if_neg hj]
      by_cases e15 : j = 15
      · subst e15; exact x15.symm
      rw [if_neg e15]
      by_cases e16 : j = 16
      · subst e16; exact x16.symm
      rw [if_neg e16]
    | 18, hoi =>
      cases hoi
      have x15 : X 15 = .bool false := h ⟨15, .guard⟩ (by simp) (by rfl)
      clear h
      refine wpOp_do rfl ?_ ?_
      · show Region.wanted _ (yielded _ _) = true
        simp only [x15]
        rfl
      simp only [x15]
      go_simp
      refine Stepped.mk2 (fun j => if j = 18 then .int .i64 d else if j = 15 then .bool false else X j) (fun j hj => ?_) rfl hR
      rw [if_neg hj]
      by_cases e15 : j = 15
      · subst e15; exact x15.symm
      rw [if_neg e15]
    | 19, hoi =>
      cases hoi
      have x18 : X 18 = .int .i64 d := h ⟨18, .data⟩ (by simp) (by rfl)
      have x15 : X 15 = .bool false := h ⟨15, .chain⟩ (by simp) (by rfl)
      clear h
      refine wpOp_do rfl ?_ ?_
      · show Region.wanted _ (yielded _ _) = true
        simp only [x15, x18]
        rfl
      simp only [x15, x18]
      go_simp
      go_at_call 21
      refine (volCmds_any d _ HW.out).mono ?_
      rintro x w6 ⟨rfl, hb⟩
      go_simp
      refine Stepped.mk2 (fun j => if j = 19 then .int .i64 (volC d) else if j = 15 then .bool false else if j = 18 then .int .i64 d else X j) (fun j hj => ?_) rfl (hR.next hb)
      rw [if_neg hj]
      by_cases e15 : j = 15
      · subst e15; exact x15.symm
      rw [if_neg e15]
      by_cases e18 : j = 18
      · subst e18; exact x18.symm
      rw [if_neg e18]
    | 20, hoi =>
      cases hoi
      have x17 : X 17 = .int .i64 vc := h ⟨17, .data⟩ (by simp) (by rfl)
      have x19 : X 19 = .int .i64 (volC d) := h ⟨19, .data⟩ (by simp) (by rfl)
      have x15 : X 15 = .bool false := h ⟨15, .guard⟩ (by simp) (by rfl)
      clear h
      refine wpOp_do rfl ?_ ?_
      · show Region.wanted _ (yielded _ _) = true
        simp only [x15, x17, x19]
        rfl
      simp only [x15, x17, x19]
      go_simp
      refine Stepped.mk2 (fun j => if j = 20 then .bool false else if j = 15 then .bool false else if j = 17 then .int .i64 vc else if j = 19 then .int .i64 (volC d) else X j) (fun j hj => ?_) rfl hR
      rw [if_neg hj]
      by_cases e15 : j = 15
      · subst e15; exact x15.symm
      rw [if_neg e15]
      by_cases e17 : j = 17
      · subst e17; exact x17.symm
      rw [if_neg e17]
      by_cases e19 : j = 19
      · subst e19; exact x19.symm
      rw [if_neg e19]
    | 21, hoi =>
      cases hoi
      have x15 : X 15 = .bool false := h ⟨15, .data⟩ (by simp) (by rfl)
      have x20 : X 20 = .bool false := h ⟨20, .data⟩ (by simp) (by rfl)
      clear h
      refine wpOp_do rfl rfl ?_
      simp only [x15, x20]
      go_simp
      refine Stepped.mk2 (fun j => if j = 21 then .bool false else if j = 15 then .bool false else if j = 20 then .bool false else X j) (fun j hj => ?_) rfl hR
      rw [if_neg hj]
      by_cases e15 : j = 15
      · subst e15; exact x15.symm
      rw [if_neg e15]
      by_cases e20 : j = 20
      · subst e20; exact x20.symm
      rw [if_neg e20]
    | i + 22, hoi => simp at hoi
  case hend =>
    intro w5 hR
    obtain ⟨q0, q1, q2, q3, q4, q5, -⟩ := id hR
    dsimp only
    go_wp2
    go_ret
    exact ⟨rfl, hR.bel HB⟩
set_option maxHeartbeats 4000000 in
set_option maxRecDepth 100000 in
theorem pvalid_F (d note inst vc va e p : Int) (d1 : 1 ≤ d) (d2 : d ≤ 6) (hc : cellB note inst vc va e p = true) (hn : noteD d note = true) (hv : vc ≤ volC d) (he : e ≠ 0) (w : World) : Calls Tryz.prog 7 #[.int .i64 d, .agg #[.int .i64 note, .int .i64 inst, .int .i64 vc, .int .i64 va, .int .i64 e, .int .i64 p]] w fun x w' => x = .returned (.bool (hasL (letS d).data.toList (letN e))) ∧ BelowW w w' := by
  have HD := hid (And.intro d1 d2)
  have HC := hid hc
  have HN := hid hn
  have HW : Hid ((Lit.int .i64 d).wf = true) := hid (WalkArith.wf_i64 (by omega))
  have hv1 := decide_eq_false (show ¬ volC d < vc by omega)
  have te : (e == 0) = false := beq_false he
  have HE : Hid (1 ≤ e ∧ e ≤ 36) := hid (by have := (cellB_eff hc); omega)
  obtain ⟨z, hz⟩ : ∃ z, Go.Lib.indexByte (letS d).data.toList (letN e).toNat.toUInt8 = z := ⟨_, rfl⟩
  have HX := hid (hasL_index (letN e) (letN_range (by have := HE.out; omega) HE.out.2).1 (letN_range (by have := HE.out; omega) HE.out.2).2 (letS d).data.toList)
  rw [HX.out, hz]
  have HZ := hid hz
  clear d1 d2 hc hn hv he hz HX
  have HS := hid (Six.box note inst vc va e p w)
  have HB : BelowW w (w.alloc (.cells #[.int .i64 note, .int .i64 inst, .int .i64 vc, .int .i64 va, .int .i64 e, .int .i64 p] 23)) := below1 w _
  go_enter Tryz.func7, Tryz.ntmps7
  go_upto_region 1 with (fail)
  generalize w.alloc (.cells #[.int .i64 note, .int .i64 inst, .int .i64 vc, .int .i64 va, .int .i64 e, .int .i64 p] 23) = w1 at *
  generalize w.heap.size = g at *
  refine wp_region_pure (n := 22) (fun X => #[.int .i64 d, .agg #[.int .i64 note, .int .i64 inst, .int .i64 vc, .int .i64 va, .int .i64 e, .int .i64 p], undef, .pointer (some ⟨g, 0, none⟩), .bool false, X 0, X 1, X 2, X 3, X 4, X 5, X 6, X 7, X 8, X 9, X 10, X 11, X 12, X 13, X 14, X 15, X 16, X 17, X 18, X 19, X 20, X 21, undef, undef, undef, undef, undef, undef, undef, undef, undef, undef]) (fun j => match j with | 0 => .int .i64 d | 1 => .bool true | 2 => .bool false | 3 => .bool false | 4 => .agg #[.int .i64 note, .int .i64 inst, .int .i64 vc, .int .i64 va, .int .i64 e, .int .i64 p] | 5 => .bool true | 6 => .bool false | 7 => .bool false | 8 => .bool false | 9 => .int .i64 d | 10 => .pointer (some ⟨g, 0, none⟩) | 11 => .int .i64 note | 12 => .bool true | 13 => .bool false | 14 => .bool false | 15 => .bool false | 16 => .pointer (some ⟨g, 2, none⟩) | 17 => .int .i64 vc | 18 => .int .i64 d | 19 => .int .i64 (volC d) | 20 => .bool false | 21 => .bool false | _ => undef) (Six g note inst vc va e p w1) (fun j => match j with  | _ => undef) (by kernel_rfl) rfl (by kernel_rfl) rfl ?hR0 ?hfr ?hstep ?hend
  case hR0 => exact HS.out.drew
  case hfr =>
    intro X h
    simp only [h 0 (by decide), h 1 (by decide), h 2 (by decide), h 3 (by decide), h 4 (by decide), h 5 (by decide), h 6 (by decide), h 7 (by decide), h 8 (by decide), h 9 (by decide), h 10 (by decide), h 11 (by decide), h 12 (by decide), h 13 (by decide), h 14 (by decide), h 15 (by decide), h 16 (by decide), h 17 (by decide), h 18 (by decide), h 19 (by decide), h 20 (by decide), h 21 (by decide)]
  case hstep =>
    intro i oi hoi X w5 h hR
    match i, hoi with
    | 0, hoi =>
      cases hoi
      clear h
      refine wpOp_do rfl rfl ?_
      go_simp
      exact ⟨rfl, hR⟩
    | 1, hoi =>
      cases hoi
      have x0 : X 0 = .int .i64 d := h ⟨0, .data⟩ (by simp) (by rfl)
      clear h
      refine wpOp_do rfl rfl ?_
      simp only [x0]
      go_simp
      go_at_call 18
      refine (is_yes _ _ HD.out.1 HD.out.2).mono ?_
      rintro x w6 ⟨rfl, rfl⟩
      go_simp
      refine Stepped.mk2 (fun j => if j = 1 then .bool true else if j = 0 then .int .i64 d else X j) (fun j hj => ?_) rfl hR
      rw [if_neg hj]
      by_cases e0 : j = 0
      · subst e0; exact x0.symm
      rw [if_neg e0]
    | 2, hoi =>
      cases hoi
      have x1 : X 1 = .bool true := h ⟨1, .data⟩ (by simp) (by rfl)
      clear h
      refine wpOp_do rfl rfl ?_
      simp only [x1]
      go_simp
      refine Stepped.mk2 (fun j => if j = 2 then .bool false else if j = 1 then .bool true else X j) (fun j hj => ?_) rfl hR
      rw [if_neg hj]
      by_cases e1 : j = 1
      · subst e1; exact x1.symm
      rw [if_neg e1]
    | 3, hoi =>
      cases hoi
      have x2 : X 2 = .bool false := h ⟨2, .data⟩ (by simp) (by rfl)
      have x1 : X 1 = .bool true := h ⟨1, .chain⟩ (by simp) (by rfl)
      clear h
      refine wpOp_do rfl rfl ?_
      simp only [x1, x2]
      go_simp
      refine Stepped.mk2 (fun j => if j = 3 then .bool false else if j = 1 then .bool true else if j = 2 then .bool false else X j) (fun j hj => ?_) rfl hR
      rw [if_neg hj]
      by_cases e1 : j = 1
      · subst e1; exact x1.symm
      rw [if_neg e1]
      by_cases e2 : j = 2
      · subst e2; exact x2.symm
      rw [if_neg e2]
    | 4, hoi =>
      cases hoi
      have x3 : X 3 = .bool false := h ⟨3, .guard⟩ (by simp) (by rfl)
      clear h
      refine wpOp_do rfl ?_ ?_
      · show Region.wanted _ (yielded _ _) = true
        simp only [x3]
        rfl
      simp only [x3]
      obtain ⟨q0, q1, q2, q3, q4, q5, -⟩ := id hR
      go_simp
      refine Stepped.mk2 (fun j => if j = 4 then .agg #[.int .i64 note, .int .i64 inst, .int .i64 vc, .int .i64 va, .int .i64 e, .int .i64 p] else if j = 3 then .bool false else X j) (fun j hj => ?_) rfl hR
      rw [if_neg hj]
      by_cases e3 : j = 3
      · subst e3; exact x3.symm
      rw [if_neg e3]
    | 5, hoi =>
      cases hoi
      have x4 : X 4 = .agg #[.int .i64 note, .int .i64 inst, .int .i64 vc, .int .i64 va, .int .i64 e, .int .i64 p] := h ⟨4, .data⟩ (by simp) (by rfl)
      have x3 : X 3 = .bool false := h ⟨3, .chain⟩ (by simp) (by rfl)
      clear h
      refine wpOp_do rfl ?_ ?_
      · show Region.wanted _ (yielded _ _) = true
        simp only [x3, x4]
        rfl
      simp only [x3, x4]
      go_simp
      go_at_call 19
      refine (vcell19_is note inst vc va e p _ HC.out _).mono ?_
      rintro x w6 ⟨rfl, hb⟩
      go_simp
      refine Stepped.mk2 (fun j => if j = 5 then .bool true else if j = 3 then .bool false else if j = 4 then .agg #[.int .i64 note, .int .i64 inst, .int .i64 vc, .int .i64 va, .int .i64 e, .int .i64 p] else X j) (fun j hj => ?_) rfl (hR.next hb)
      rw [if_neg hj]
      by_cases e3 : j = 3
      · subst e3; exact x3.symm
      rw [if_neg e3]
      by_cases e4 : j = 4
      · subst e4; exact x4.symm
      rw [if_neg e4]
    | 6, hoi =>
      cases hoi
      have x5 : X 5 = .bool true := h ⟨5, .data⟩ (by simp) (by rfl)
      have x3 : X 3 = .bool false := h ⟨3, .guard⟩ (by simp) (by rfl)
      clear h
      refine wpOp_do rfl ?_ ?_
      · show Region.wanted _ (yielded _ _) = true
        simp only [x3, x5]
        rfl
      simp only [x3, x5]
      go_simp
      refine Stepped.mk2 (fun j => if j = 6 then .bool false else if j = 3 then .bool false else if j = 5 then .bool true else X j) (fun j hj => ?_) rfl hR
      rw [if_neg hj]
      by_cases e3 : j = 3
      · subst e3; exact x3.symm
      rw [if_neg e3]
      by_cases e5 : j = 5
      · subst e5; exact x5.symm
      rw [if_neg e5]
    | 7, hoi =>
      cases hoi
      have x3 : X 3 = .bool false := h ⟨3, .data⟩ (by simp) (by rfl)
      have x6 : X 6 = .bool false := h ⟨6, .data⟩ (by simp) (by rfl)
      clear h
      refine wpOp_do rfl rfl ?_
      simp only [x3, x6]
      go_simp
      refine Stepped.mk2 (fun j => if j = 7 then .bool false else if j = 3 then .bool false else if j = 6 then .bool false else X j) (fun j hj => ?_) rfl hR
      rw [if_neg hj]
      by_cases e3 : j = 3
      · subst e3; exact x3.symm
      rw [if_neg e3]
      by_cases e6 : j = 6
      · subst e6; exact x6.symm
      rw [if_neg e6]
    | 8, hoi =>
      cases hoi
      have x7 : X 7 = .bool false := h ⟨7, .data⟩ (by simp) (by rfl)
      have x5 : X 5 = .bool true := h ⟨5, .chain⟩ (by simp) (by rfl)
      clear h
      refine wpOp_do rfl rfl ?_
      simp only [x5, x7]
      go_simp
      refine Stepped.mk2 (fun j => if j = 8 then .bool false else if j = 5 then .bool true else if j = 7 then .bool false else X j) (fun j hj => ?_) rfl hR
      rw [if_neg hj]
      by_cases e5 : j = 5
      · subst e5; exact x5.symm
      rw [if_neg e5]
      by_cases e7 : j = 7
      · subst e7; exact x7.symm
      rw [if_neg e7]
    | 9, hoi =>
      cases hoi
      have x8 : X 8 = .bool false := h ⟨8, .guard⟩ (by simp) (by rfl)
      clear h
      refine wpOp_do rfl ?_ ?_
      · show Region.wanted _ (yielded _ _) = true
        simp only [x8]
        rfl
      simp only [x8]
      go_simp
      refine Stepped.mk2 (fun j => if j = 9 then .int .i64 d else if j = 8 then .bool false else X j) (fun j hj => ?_) rfl hR
      rw [if_neg hj]
      by_cases e8 : j = 8
      · subst e8; exact x8.symm
      rw [if_neg e8]
    | 10, hoi =>
      cases hoi
      have x8 : X 8 = .bool false := h ⟨8, .guard⟩ (by simp) (by rfl)
      clear h
      refine wpOp_do rfl ?_ ?_
      · show Region.wanted _ (yielded _ _) = true
        simp only [x8]
        rfl
      simp only [x8]
      go_simp
      refine Stepped.mk2 (fun j => if j = 10 then .pointer (some ⟨g, 0, none⟩) else if j = 8 then .bool false else X j) (fun j hj => ?_) rfl hR
      rw [if_neg hj]
      by_cases e8 : j = 8
      · subst e8; exact x8.symm
      rw [if_neg e8]
    | 11, hoi =>
      cases hoi
      have x10 : X 10 = .pointer (some ⟨g, 0, none⟩) := h ⟨10, .data⟩ (by simp) (by rfl)
      have x8 : X 8 = .bool false := h ⟨8, .guard⟩ (by simp) (by rfl)
      clear h
      refine wpOp_do rfl ?_ ?_
      · show Region.wanted _ (yielded _ _) = true
        simp only [x8, x10]
        rfl
      simp only [x8, x10]
      obtain ⟨q0, q1, q2, q3, q4, q5, -⟩ := id hR
      go_simp
      refine Stepped.mk2 (fun j => if j = 11 then .int .i64 note else if j = 8 then .bool false else if j = 10 then .pointer (some ⟨g, 0, none⟩) else X j) (fun j hj => ?_) rfl hR
      rw [if_neg hj]
      by_cases e8 : j = 8
      · subst e8; exact x8.symm
      rw [if_neg e8]
      by_cases e10 : j = 10
      · subst e10; exact x10.symm
      rw [if_neg e10]
    | 12, hoi =>
      cases hoi
      have x9 : X 9 = .int .i64 d := h ⟨9, .data⟩ (by simp) (by rfl)
      have x11 : X 11 = .int .i64 note := h ⟨11, .data⟩ (by simp) (by rfl)
      have x8 : X 8 = .bool false := h ⟨8, .chain⟩ (by simp) (by rfl)
      clear h
      refine wpOp_do rfl ?_ ?_
      · show Region.wanted _ (yielded _ _) = true
        simp only [x8, x9, x11]
        rfl
      simp only [x8, x9, x11]
      go_simp
      go_at_call 20
      refine (hasNote_is d note HD.out.1 HD.out.2 _ HN.out _).mono ?_
      rintro x w6 ⟨rfl, hb⟩
      go_simp
      refine Stepped.mk2 (fun j => if j = 12 then .bool true else if j = 8 then .bool false else if j = 9 then .int .i64 d else if j = 11 then .int .i64 note else X j) (fun j hj => ?_) rfl (hR.next hb)
      rw [if_neg hj]
      by_cases e8 : j = 8
      · subst e8; exact x8.symm
      rw [if_neg e8]
      by_cases e9 : j = 9
      · subst e9; exact x9.symm
      rw [if_neg e9]
      by_cases e11 : j = 11
      · subst e11; exact x11.symm
      rw [if_neg e11]
    | 13, hoi =>
      cases hoi
      have x12 : X 12 = .bool true := h ⟨12, .data⟩ (by simp) (by rfl)
      have x8 : X 8 = .bool false := h ⟨8, .guard⟩ (by simp) (by rfl)
      clear h
      refine wpOp_do rfl ?_ ?_
      · show Region.wanted _ (yielded _ _) = true
        simp only [x8, x12]
        rfl
      simp only [x8, x12]
      go_simp
      refine Stepped.mk2 (fun j => if j = 13 then .bool false else if j = 8 then .bool false else if j = 12 then .bool true else X j) (fun j hj => ?_) rfl hR
      rw [if_neg hj]
      by_cases e8 : j = 8
      · subst e8; exact x8.symm
      rw [if_neg e8]
      by_cases e12 : j = 12
      · subst e12; exact x12.symm
      rw [if_neg e12]
    | 14, hoi =>
      cases hoi
      have x8 : X 8 = .bool false := h ⟨8, .data⟩ (by simp) (by rfl)
      have x13 : X 13 = .bool false := h ⟨13, .data⟩ (by simp) (by rfl)
      clear h
      refine wpOp_do rfl rfl ?_
      simp only [x8, x13]
      go_simp
      refine Stepped.mk2 (fun j => if j = 14 then .bool false else if j = 8 then .bool false else if j = 13 then .bool false else X j) (fun j hj => ?_) rfl hR
      rw [if_neg hj]
      by_cases e8 : j = 8
      · subst e8; exact x8.symm
      rw [if_neg e8]
      by_cases e13 : j = 13
      · subst e13; exact x13.symm
      rw [if_neg e13]
    | 15, hoi =>
      cases hoi
      have x14 : X 14 = .bool false := h ⟨14, .data⟩ (by simp) (by rfl)
      have x12 : X 12 = .bool true := h ⟨12, .chain⟩ (by simp) (by rfl)
      clear h
      refine wpOp_do rfl rfl ?_
      simp only [x12, x14]
      go_simp
      refine Stepped.mk2 (fun j => if j = 15 then .bool false else if j = 12 then .bool true else if j = 14 then .bool false else X j) (fun j hj => ?_) rfl hR
      rw [if_neg hj]
      by_cases e12 : j = 12
      · subst e12; exact x12.symm
      rw [if_neg e12]
      by_cases e14 : j = 14
      · subst e14; exact x14.symm
      rw [if_neg e14]
    | 16, hoi =>
      cases hoi
      have x15 : X 15 = .bool false := h ⟨15, .guard⟩ (by simp) (by rfl)
      clear h
      refine wpOp_do rfl ?_ ?_
      · show Region.wanted _ (yielded _ _) = true
        simp only [x15]
        rfl
      simp only [x15]
      go_simp
      refine Stepped.mk2 (fun j => if j = 16 then .pointer (some ⟨g, 2, none⟩) else if j = 15 then .bool false else X j) (fun j hj => ?_) rfl hR
      rw [if_neg hj]
      by_cases e15 : j = 15
      · subst e15; exact x15.symm
      rw [if_neg e15]
    | 17, hoi =>
      cases hoi
      have x16 : X 16 = .pointer (some ⟨g, 2, none⟩) := h ⟨16, .data⟩ (by simp) (by rfl)
      have x15 : X 15 = .bool false := h ⟨15, .guard⟩ (by simp) (by rfl)
      clear h
      refine wpOp_do rfl ?_ ?_
      · show Region.wanted _ (yielded _ _) = true
        simp only [x15, x16]
        rfl
      simp only [x15, x16]
      obtain ⟨q0, q1, q2, q3, q4, q5, -⟩ := id hR
      go_simp
      refine Stepped.mk2 (fun j => if j = 17 then .int .i64 vc else if j = 15 then .bool false else if j = 16 then .pointer (some ⟨g, 2, none⟩) else X j) (fun j hj => ?_) rfl hR
      rw [if_neg hj]
      by_cases e15 : j = 15
      · subst e15; exact x15.symm
      rw [if_neg e15]
      by_cases e16 : j = 16
      · subst e16; exact x16.symm
      rw [if_neg e16]
    | 18, hoi =>
      cases hoi
      have x15 : X 15 = .bool false := h ⟨15, .guard⟩ (by simp) (by rfl)
      clear h
      refine wpOp_do rfl ?_ ?_
      · show Region.wanted _ (yielded _ _) = true
        simp only [x15]
        rfl
      simp only [x15]
      go_simp
      refine Stepped.mk2 (fun j => if j = 18 then .int .i64 d else if j = 15 then .bool false else X j) (fun j hj => ?_) rfl hR
      rw [if_neg hj]
      by_cases e15 : j = 15
      · subst e15; exact x15.symm
      rw [if_neg e15]
    | 19, hoi =>
      cases hoi
      have x18 : X 18 = .int .i64 d := h ⟨18, .data⟩ (by simp) (by rfl)
      have x15 : X 15 = .bool false := h ⟨15, .chain⟩ (by simp) (by rfl)
      clear h
      refine wpOp_do rfl ?_ ?_
      · show Region.wanted _ (yielded _ _) = true
        simp only [x15, x18]
        rfl
      simp only [x15, x18]
      go_simp
      go_at_call 21
      refine (volCmds_any d _ HW.out).mono ?_
      rintro x w6 ⟨rfl, hb⟩
      go_simp
      refine Stepped.mk2 (fun j => if j = 19 then .int .i64 (volC d) else if j = 15 then .bool false else if j = 18 then .int .i64 d else X j) (fun j hj => ?_) rfl (hR.next hb)
      rw [if_neg hj]
      by_cases e15 : j = 15
      · subst e15; exact x15.symm
      rw [if_neg e15]
      by_cases e18 : j = 18
      · subst e18; exact x18.symm
      rw [if_neg e18]
    | 20, hoi =>
      cases hoi
      have x17 : X 17 = .int .i64 vc := h ⟨17, .data⟩ (by simp) (by rfl)
      have x19 : X 19 = .int .i64 (volC d) := h ⟨19, .data⟩ (by simp) (by rfl)
      have x15 : X 15 = .bool false := h ⟨15, .guard⟩ (by simp) (by rfl)
      clear h
      refine wpOp_do rfl ?_ ?_
      · show Region.wanted _ (yielded _ _) = true
        simp only [x15, x17, x19]
        rfl
      simp only [x15, x17, x19]
      go_simp
      refine Stepped.mk2 (fun j => if j = 20 then .bool false else if j = 15 then .bool false else if j = 17 then .int .i64 vc else if j = 19 then .int .i64 (volC d) else X j) (fun j hj => ?_) rfl hR
      rw [if_neg hj]
      by_cases e15 : j = 15
      · subst e15; exact x15.symm
      rw [if_neg e15]
      by_cases e17 : j = 17
      · subst e17; exact x17.symm
      rw [if_neg e17]
      by_cases e19 : j = 19
      · subst e19; exact x19.symm
      rw [if_neg e19]
    | 21, hoi =>
      cases hoi
      have x15 : X 15 = .bool false := h ⟨15, .data⟩ (by simp) (by rfl)
      have x20 : X 20 = .bool false := h ⟨20, .data⟩ (by simp) (by rfl)
      clear h
      refine wpOp_do rfl rfl ?_
      simp only [x15, x20]
      go_simp
      refine Stepped.mk2 (fun j => if j = 21 then .bool false else if j = 15 then .bool false else if j = 20 then .bool false else X j) (fun j hj => ?_) rfl hR
      rw [if_neg hj]
      by_cases e15 : j = 15
      · subst e15; exact x15.symm
      rw [if_neg e15]
      by_cases e20 : j = 20
      · subst e20; exact x20.symm
      rw [if_neg e20]
    | i + 22, hoi => simp at hoi
  case hend =>
    intro w5 hR
    obtain ⟨q0, q1, q2, q3, q4, q5, -⟩ := id hR
    dsimp only
    go_wp2
    by_cases hz0 : 0 ≤ z
    · have b0 := decide_eq_true hz0
      go_quiet ((first | (go_at_call 16; exact Calls.quiet_of_same ((letters_any d _).mono fun _ _ h => ⟨h.1, h.2.symm⟩)) | (go_at_call 23; exact Calls.quiet_of_same ((plet_any e HE.out.1 HE.out.2 _).mono fun _ _ h => ⟨h.1, h.2.symm⟩)) | (go_at_call 22; exact Calls.quiet_of_same ((index_is (letS d) (letN e) z HZ.out _).mono fun _ _ h => ⟨h.1, h.2.symm⟩))))
      go_wp2
      go_ret
      first | exact ⟨rfl, (hR.bel HB).drewN _⟩ | exact ⟨by rw [b0]; rfl, (hR.bel HB).drewN _⟩ | exact ⟨by rw [show decide (0 ≤ z) = true from b0], (hR.bel HB).drewN _⟩ | (refine ⟨?_, (hR.bel HB).drewN _⟩; simp only [b0]; rfl)
    · have b0 := decide_eq_false hz0
      go_quiet ((first | (go_at_call 16; exact Calls.quiet_of_same ((letters_any d _).mono fun _ _ h => ⟨h.1, h.2.symm⟩)) | (go_at_call 23; exact Calls.quiet_of_same ((plet_any e HE.out.1 HE.out.2 _).mono fun _ _ h => ⟨h.1, h.2.symm⟩)) | (go_at_call 22; exact Calls.quiet_of_same ((index_is (letS d) (letN e) z HZ.out _).mono fun _ _ h => ⟨h.1, h.2.symm⟩))))
      go_wp2
      go_ret
      first | exact ⟨rfl, (hR.bel HB).drewN _⟩ | exact ⟨by rw [b0]; rfl, (hR.bel HB).drewN _⟩ | exact ⟨by rw [show decide (0 ≤ z) = false from b0], (hR.bel HB).drewN _⟩ | (refine ⟨?_, (hR.bel HB).drewN _⟩; simp only [b0]; rfl)
theorem pvalid_any (d note inst vc va e p : Int) (w : World) : Calls Tryz.prog 7 #[.int .i64 d, .agg #[.int .i64 note, .int .i64 inst, .int .i64 vc, .int .i64 va, .int .i64 e, .int .i64 p]] w fun x w' => x = .returned (.bool (validB d note inst vc va e p)) ∧ BelowW w w' := by
  unfold validB isD
  by_cases hd : 1 ≤ d ∧ d ≤ 6
  · obtain ⟨d1, d2⟩ := hd
    rw [decide_eq_true d1, decide_eq_true d2]
    cases hc : cellB note inst vc va e p with
    | false => exact pvalid_B d note inst vc va e p d1 d2 hc w
    | true =>
      cases hn : noteD d note with
      | false => exact pvalid_C d note inst vc va e p d1 d2 hc hn w
      | true =>
        by_cases hv : vc ≤ volC d
        · rw [decide_eq_true hv]
          unfold effD
          by_cases he : e = 0
          · rw [if_pos he]; exact pvalid_E d note inst vc va e p d1 d2 hc hn hv he w
          · rw [if_neg he]; exact pvalid_F d note inst vc va e p d1 d2 hc hn hv he w
        · rw [decide_eq_false hv]; exact pvalid_D d note inst vc va e p d1 d2 hc hn (by omega) w
  · have : (decide (1 ≤ d) && decide (d ≤ 6)) = false := by
      rw [Bool.and_eq_false_iff, decide_eq_false_iff_not, decide_eq_false_iff_not]; omega
    rw [this]
    exact pvalid_A d note inst vc va e p hd w
end Go.Proofs.YtkpielgdfahanaaGreat
