/- pattern.ValidCell and the reference's: which cells are valid. -/
import Derived.Test.YtkpielgdfahanaaGreatIndex
import Derived.Deep.DeepCutAuto
namespace Go.Proofs.YtkpielgdfahanaaGreat
open Go.RowKit Go.Maps
def noteB (n : Int) : Bool := inr n 0 120 || decide (n = 253) || decide (n = 254) || decide (n = 255)
def volB (vc va : Int) : Bool := inr vc 0 12 && inr va 0 99 && (decide (0 < vc) || decide (va = 0))
def effB (e p : Int) : Bool := inr e 0 36 && inr p 0 255 && (decide (0 < e) || decide (p = 0))
def cellB (note inst vc va e p : Int) : Bool := noteB note && inr inst 0 31 && volB vc va && effB e p
theorem within_is (x lo hi : Int) (b : Bool) (h : inr x lo hi = b) (w : World) : Calls Tryz.prog 35 #[.int .i64 x, .int .i64 lo, .int .i64 hi] w fun e w' => e = .returned (.bool b) ∧ w = w' := by
  subst h; exact within_any x lo hi w
theorem noteB_iff (n : Int) : noteB n = true ↔ (0 ≤ n ∧ n ≤ 120) ∨ n = 253 ∨ n = 254 ∨ n = 255 := by simp [noteB, inr, or_assoc]
theorem volB_iff (vc va : Int) : volB vc va = true ↔ (0 ≤ vc ∧ vc ≤ 12) ∧ (0 ≤ va ∧ va ≤ 99) ∧ (0 < vc ∨ va = 0) := by simp [volB, inr, and_assoc]
theorem effB_iff (e p : Int) : effB e p = true ↔ (0 ≤ e ∧ e ≤ 36) ∧ (0 ≤ p ∧ p ≤ 255) ∧ (0 < e ∨ p = 0) := by simp [effB, inr, and_assoc]
theorem bool_t {b : Bool} {P : Prop} (h : b = true ↔ P) (p : P) : Value.bool true = .bool b := by rw [h.2 p]
theorem bool_f {b : Bool} {P : Prop} (h : b = true ↔ P) (p : ¬ P) : Value.bool false = .bool b := by
  cases b with
  | false => rfl
  | true => exact absurd (h.1 rfl) p
theorem inr_no {n lo hi : Int} (h : inr n lo hi = false) : ¬ (lo ≤ n ∧ n ≤ hi) := fun k => by rw [(inr_iff n lo hi).2 k] at h; cases h
def BelowW (w w' : World) : Prop := Below w.heap.size w w'
theorem bool_val {a b : Bool} (h : a = b) : Value.bool a = .bool b := by rw [h]
set_option maxHeartbeats 4000000 in
set_option maxRecDepth 10000 in
theorem vcell19 (note inst vc va e p : Int) (w : World) : Calls Tryz.prog 19 #[.agg #[.int .i64 note, .int .i64 inst, .int .i64 vc, .int .i64 va, .int .i64 e, .int .i64 p]] w fun x w' => x = .returned (.bool (cellB note inst vc va e p)) ∧ Below w.heap.size w w' := by
  have q0 : (w.alloc (.cells #[.int .i64 note, .int .i64 inst, .int .i64 vc, .int .i64 va, .int .i64 e, .int .i64 p] 23)).cell? ⟨w.heap.size, 0, none⟩ = some (.int .i64 note) := by simp
  have q1 : (w.alloc (.cells #[.int .i64 note, .int .i64 inst, .int .i64 vc, .int .i64 va, .int .i64 e, .int .i64 p] 23)).cell? ⟨w.heap.size, 1, none⟩ = some (.int .i64 inst) := by simp
  have q2 : (w.alloc (.cells #[.int .i64 note, .int .i64 inst, .int .i64 vc, .int .i64 va, .int .i64 e, .int .i64 p] 23)).cell? ⟨w.heap.size, 2, none⟩ = some (.int .i64 vc) := by simp
  have q3 : (w.alloc (.cells #[.int .i64 note, .int .i64 inst, .int .i64 vc, .int .i64 va, .int .i64 e, .int .i64 p] 23)).cell? ⟨w.heap.size, 3, none⟩ = some (.int .i64 va) := by simp
  have q4 : (w.alloc (.cells #[.int .i64 note, .int .i64 inst, .int .i64 vc, .int .i64 va, .int .i64 e, .int .i64 p] 23)).cell? ⟨w.heap.size, 4, none⟩ = some (.int .i64 e) := by simp
  have q5 : (w.alloc (.cells #[.int .i64 note, .int .i64 inst, .int .i64 vc, .int .i64 va, .int .i64 e, .int .i64 p] 23)).cell? ⟨w.heap.size, 5, none⟩ = some (.int .i64 p) := by simp
  have HB : BelowW w (w.alloc (.cells #[.int .i64 note, .int .i64 inst, .int .i64 vc, .int .i64 va, .int .i64 e, .int .i64 p] 23)) := below1 w (.cells #[.int .i64 note, .int .i64 inst, .int .i64 vc, .int .i64 va, .int .i64 e, .int .i64 p] 23)
  go_enter Tryz.func19, Tryz.ntmps19
  go_upto_region 1 with (fail)
  generalize w.alloc (.cells #[.int .i64 note, .int .i64 inst, .int .i64 vc, .int .i64 va, .int .i64 e, .int .i64 p] 23) = w1 at *
  generalize w.heap.size = g at *
  go_cut [3] (fun s wx => s = .bool (noteB note) ∧ w1 = wx)
  case first =>
    by_cases h1 : inr note 0 120 = true
    · have Hh1 := hid h1; clear h1
      go_wp2_with fail
      go_at_call 35
      refine (within_is _ _ _ true Hh1.out _).mono ?_
      rintro x w9 ⟨rfl, rfl⟩
      go_wp2_with fail
      go_meet
      have h1x := (inr_iff _ _ _).1 Hh1.out
      exact ⟨by first | exact bool_t (noteB_iff _) (by omega) | exact bool_f (noteB_iff _) (by omega), rfl⟩
    · have h1 : inr note 0 120 = false := by simpa using h1
      by_cases h2 : note = 253
      · have bh2 : (note == 253) = true := beq_true h2
        have Hh1 := hid h1; clear h1
        have Hh2 := hid h2; clear h2
        go_wp2_with fail
        go_at_call 35
        refine (within_is _ _ _ false Hh1.out _).mono ?_
        rintro x w9 ⟨rfl, rfl⟩
        go_wp2_with fail
        go_meet
        have h1x := inr_no Hh1.out
        have h2x := Hh2.out
        exact ⟨by first | exact bool_t (noteB_iff _) (by omega) | exact bool_f (noteB_iff _) (by omega), rfl⟩
      · have bh2 : (note == 253) = false := beq_false h2
        by_cases h3 : note = 254
        · have bh3 : (note == 254) = true := beq_true h3
          have Hh1 := hid h1; clear h1
          have Hh2 := hid h2; clear h2
          have Hh3 := hid h3; clear h3
          go_wp2_with fail
          go_at_call 35
          refine (within_is _ _ _ false Hh1.out _).mono ?_
          rintro x w9 ⟨rfl, rfl⟩
          go_wp2_with fail
          go_meet
          have h1x := inr_no Hh1.out
          have h2x := Hh2.out
          have h3x := Hh3.out
          exact ⟨by first | exact bool_t (noteB_iff _) (by omega) | exact bool_f (noteB_iff _) (by omega), rfl⟩
        · have bh3 : (note == 254) = false := beq_false h3
          by_cases h4 : note = 255
          · have bh4 : (note == 255) = true := beq_true h4
            have Hh1 := hid h1; clear h1
            have Hh2 := hid h2; clear h2
            have Hh3 := hid h3; clear h3
            have Hh4 := hid h4; clear h4
            go_wp2_with fail
            go_at_call 35
            refine (within_is _ _ _ false Hh1.out _).mono ?_
            rintro x w9 ⟨rfl, rfl⟩
            go_wp2_with fail
            go_meet
            have h1x := inr_no Hh1.out
            have h2x := Hh2.out
            have h3x := Hh3.out
            have h4x := Hh4.out
            exact ⟨by first | exact bool_t (noteB_iff _) (by omega) | exact bool_f (noteB_iff _) (by omega), rfl⟩
          · have bh4 : (note == 255) = false := beq_false h4
            have Hh1 := hid h1; clear h1
            have Hh2 := hid h2; clear h2
            have Hh3 := hid h3; clear h3
            have Hh4 := hid h4; clear h4
            go_wp2_with fail
            go_at_call 35
            refine (within_is _ _ _ false Hh1.out _).mono ?_
            rintro x w9 ⟨rfl, rfl⟩
            go_wp2_with fail
            go_meet
            have h1x := inr_no Hh1.out
            have h2x := Hh2.out
            have h3x := Hh3.out
            have h4x := Hh4.out
            exact ⟨by first | exact bool_t (noteB_iff _) (by omega) | exact bool_f (noteB_iff _) (by omega), rfl⟩
  case rest =>
    obtain ⟨rfl, rfl⟩ := hcut
    go_upto_region 2 with (fail)
    go_cut [4] (fun s wx => s = .bool (volB vc va) ∧ w1 = wx)
    case first =>
      by_cases h1 : inr vc 0 12 = true
      · by_cases h2 : inr va 0 99 = true
        · by_cases h3 : 0 < vc
          · have bh3 : decide (0 < vc) = true := decide_eq_true h3
            have Hh1 := hid h1; clear h1
            have Hh2 := hid h2; clear h2
            have Hh3 := hid h3; clear h3
            go_wp2_with fail
            go_at_call 35
            refine (within_is _ _ _ true Hh1.out _).mono ?_
            rintro x w9 ⟨rfl, rfl⟩
            go_wp2_with fail
            go_at_call 35
            refine (within_is _ _ _ true Hh2.out _).mono ?_
            rintro x w9 ⟨rfl, rfl⟩
            go_wp2_with fail
            go_meet
            have h1x := (inr_iff _ _ _).1 Hh1.out
            have h2x := (inr_iff _ _ _).1 Hh2.out
            have h3x := Hh3.out
            exact ⟨by first | exact bool_t (volB_iff _ _) (by omega) | exact bool_f (volB_iff _ _) (by omega), rfl⟩
          · have bh3 : decide (0 < vc) = false := decide_eq_false h3
            by_cases h4 : va = 0
            · have bh4 : (va == 0) = true := beq_true h4
              have Hh1 := hid h1; clear h1
              have Hh2 := hid h2; clear h2
              have Hh3 := hid h3; clear h3
              have Hh4 := hid h4; clear h4
              go_wp2_with fail
              go_at_call 35
              refine (within_is _ _ _ true Hh1.out _).mono ?_
              rintro x w9 ⟨rfl, rfl⟩
              go_wp2_with fail
              go_at_call 35
              refine (within_is _ _ _ true Hh2.out _).mono ?_
              rintro x w9 ⟨rfl, rfl⟩
              go_wp2_with fail
              go_meet
              have h1x := (inr_iff _ _ _).1 Hh1.out
              have h2x := (inr_iff _ _ _).1 Hh2.out
              have h3x := Hh3.out
              have h4x := Hh4.out
              exact ⟨by first | exact bool_t (volB_iff _ _) (by omega) | exact bool_f (volB_iff _ _) (by omega), rfl⟩
            · have bh4 : (va == 0) = false := beq_false h4
              have Hh1 := hid h1; clear h1
              have Hh2 := hid h2; clear h2
              have Hh3 := hid h3; clear h3
              have Hh4 := hid h4; clear h4
              go_wp2_with fail
              go_at_call 35
              refine (within_is _ _ _ true Hh1.out _).mono ?_
              rintro x w9 ⟨rfl, rfl⟩
              go_wp2_with fail
              go_at_call 35
              refine (within_is _ _ _ true Hh2.out _).mono ?_
              rintro x w9 ⟨rfl, rfl⟩
              go_wp2_with fail
              go_meet
              have h1x := (inr_iff _ _ _).1 Hh1.out
              have h2x := (inr_iff _ _ _).1 Hh2.out
              have h3x := Hh3.out
              have h4x := Hh4.out
              exact ⟨by first | exact bool_t (volB_iff _ _) (by omega) | exact bool_f (volB_iff _ _) (by omega), rfl⟩
        · have h2 : inr va 0 99 = false := by simpa using h2
          have Hh1 := hid h1; clear h1
          have Hh2 := hid h2; clear h2
          go_wp2_with fail
          go_at_call 35
          refine (within_is _ _ _ true Hh1.out _).mono ?_
          rintro x w9 ⟨rfl, rfl⟩
          go_wp2_with fail
          go_at_call 35
          refine (within_is _ _ _ false Hh2.out _).mono ?_
          rintro x w9 ⟨rfl, rfl⟩
          go_wp2_with fail
          go_meet
          have h1x := (inr_iff _ _ _).1 Hh1.out
          have h2x := inr_no Hh2.out
          exact ⟨by first | exact bool_t (volB_iff _ _) (by omega) | exact bool_f (volB_iff _ _) (by omega), rfl⟩
      · have h1 : inr vc 0 12 = false := by simpa using h1
        have Hh1 := hid h1; clear h1
        go_wp2_with fail
        go_at_call 35
        refine (within_is _ _ _ false Hh1.out _).mono ?_
        rintro x w9 ⟨rfl, rfl⟩
        go_wp2_with fail
        go_meet
        have h1x := inr_no Hh1.out
        exact ⟨by first | exact bool_t (volB_iff _ _) (by omega) | exact bool_f (volB_iff _ _) (by omega), rfl⟩
    case rest =>
      obtain ⟨rfl, rfl⟩ := hcut
      go_upto_region 3 with (fail)
      go_cut [5] (fun s wx => s = .bool (effB e p) ∧ w1 = wx)
      case first =>
        by_cases h1 : inr e 0 36 = true
        · by_cases h2 : inr p 0 255 = true
          · by_cases h3 : 0 < e
            · have bh3 : decide (0 < e) = true := decide_eq_true h3
              have Hh1 := hid h1; clear h1
              have Hh2 := hid h2; clear h2
              have Hh3 := hid h3; clear h3
              go_wp2_with fail
              go_at_call 35
              refine (within_is _ _ _ true Hh1.out _).mono ?_
              rintro x w9 ⟨rfl, rfl⟩
              go_wp2_with fail
              go_at_call 35
              refine (within_is _ _ _ true Hh2.out _).mono ?_
              rintro x w9 ⟨rfl, rfl⟩
              go_wp2_with fail
              go_meet
              have h1x := (inr_iff _ _ _).1 Hh1.out
              have h2x := (inr_iff _ _ _).1 Hh2.out
              have h3x := Hh3.out
              exact ⟨by first | exact bool_t (effB_iff _ _) (by omega) | exact bool_f (effB_iff _ _) (by omega), rfl⟩
            · have bh3 : decide (0 < e) = false := decide_eq_false h3
              by_cases h4 : p = 0
              · have bh4 : (p == 0) = true := beq_true h4
                have Hh1 := hid h1; clear h1
                have Hh2 := hid h2; clear h2
                have Hh3 := hid h3; clear h3
                have Hh4 := hid h4; clear h4
                go_wp2_with fail
                go_at_call 35
                refine (within_is _ _ _ true Hh1.out _).mono ?_
                rintro x w9 ⟨rfl, rfl⟩
                go_wp2_with fail
                go_at_call 35
                refine (within_is _ _ _ true Hh2.out _).mono ?_
                rintro x w9 ⟨rfl, rfl⟩
                go_wp2_with fail
                go_meet
                have h1x := (inr_iff _ _ _).1 Hh1.out
                have h2x := (inr_iff _ _ _).1 Hh2.out
                have h3x := Hh3.out
                have h4x := Hh4.out
                exact ⟨by first | exact bool_t (effB_iff _ _) (by omega) | exact bool_f (effB_iff _ _) (by omega), rfl⟩
              · have bh4 : (p == 0) = false := beq_false h4
                have Hh1 := hid h1; clear h1
                have Hh2 := hid h2; clear h2
                have Hh3 := hid h3; clear h3
                have Hh4 := hid h4; clear h4
                go_wp2_with fail
                go_at_call 35
                refine (within_is _ _ _ true Hh1.out _).mono ?_
                rintro x w9 ⟨rfl, rfl⟩
                go_wp2_with fail
                go_at_call 35
                refine (within_is _ _ _ true Hh2.out _).mono ?_
                rintro x w9 ⟨rfl, rfl⟩
                go_wp2_with fail
                go_meet
                have h1x := (inr_iff _ _ _).1 Hh1.out
                have h2x := (inr_iff _ _ _).1 Hh2.out
                have h3x := Hh3.out
                have h4x := Hh4.out
                exact ⟨by first | exact bool_t (effB_iff _ _) (by omega) | exact bool_f (effB_iff _ _) (by omega), rfl⟩
          · have h2 : inr p 0 255 = false := by simpa using h2
            have Hh1 := hid h1; clear h1
            have Hh2 := hid h2; clear h2
            go_wp2_with fail
            go_at_call 35
            refine (within_is _ _ _ true Hh1.out _).mono ?_
            rintro x w9 ⟨rfl, rfl⟩
            go_wp2_with fail
            go_at_call 35
            refine (within_is _ _ _ false Hh2.out _).mono ?_
            rintro x w9 ⟨rfl, rfl⟩
            go_wp2_with fail
            go_meet
            have h1x := (inr_iff _ _ _).1 Hh1.out
            have h2x := inr_no Hh2.out
            exact ⟨by first | exact bool_t (effB_iff _ _) (by omega) | exact bool_f (effB_iff _ _) (by omega), rfl⟩
        · have h1 : inr e 0 36 = false := by simpa using h1
          have Hh1 := hid h1; clear h1
          go_wp2_with fail
          go_at_call 35
          refine (within_is _ _ _ false Hh1.out _).mono ?_
          rintro x w9 ⟨rfl, rfl⟩
          go_wp2_with fail
          go_meet
          have h1x := inr_no Hh1.out
          exact ⟨by first | exact bool_t (effB_iff _ _) (by omega) | exact bool_f (effB_iff _ _) (by omega), rfl⟩
      case rest =>
        obtain ⟨rfl, rfl⟩ := hcut
        have CB : Hid (cellB note inst vc va e p = (noteB note && inr inst 0 31 && volB vc va && effB e p)) := hid rfl
        generalize noteB note = n0 at *
        generalize volB vc va = n1 at *
        generalize effB e p = n2 at *
        generalize hI : inr inst 0 31 = n3 at *
        have HI := hid hI
        clear hI
        cases n0 <;> cases n3 <;> cases n1 <;> cases n2
        all_goals (go_wp2_with (first | (go_at_call 35; refine (within_is _ _ _ _ HI.out _).mono ?_; rintro x w9 ⟨rfl, rfl⟩) | fail); go_ret; exact ⟨by rw [CB.out]; rfl, HB⟩)
set_option maxHeartbeats 4000000 in
set_option maxRecDepth 10000 in
theorem vcell24 (note inst vc va e p : Int) (w : World) : Calls Tryz.prog 24 #[.agg #[.int .i64 note, .int .i64 inst, .int .i64 vc, .int .i64 va, .int .i64 e, .int .i64 p]] w fun x w' => x = .returned (.bool (cellB note inst vc va e p)) ∧ Below w.heap.size w w' := by
  have q0 : (w.alloc (.cells #[.int .i64 note, .int .i64 inst, .int .i64 vc, .int .i64 va, .int .i64 e, .int .i64 p] 23)).cell? ⟨w.heap.size, 0, none⟩ = some (.int .i64 note) := by simp
  have q1 : (w.alloc (.cells #[.int .i64 note, .int .i64 inst, .int .i64 vc, .int .i64 va, .int .i64 e, .int .i64 p] 23)).cell? ⟨w.heap.size, 1, none⟩ = some (.int .i64 inst) := by simp
  have q2 : (w.alloc (.cells #[.int .i64 note, .int .i64 inst, .int .i64 vc, .int .i64 va, .int .i64 e, .int .i64 p] 23)).cell? ⟨w.heap.size, 2, none⟩ = some (.int .i64 vc) := by simp
  have q3 : (w.alloc (.cells #[.int .i64 note, .int .i64 inst, .int .i64 vc, .int .i64 va, .int .i64 e, .int .i64 p] 23)).cell? ⟨w.heap.size, 3, none⟩ = some (.int .i64 va) := by simp
  have q4 : (w.alloc (.cells #[.int .i64 note, .int .i64 inst, .int .i64 vc, .int .i64 va, .int .i64 e, .int .i64 p] 23)).cell? ⟨w.heap.size, 4, none⟩ = some (.int .i64 e) := by simp
  have q5 : (w.alloc (.cells #[.int .i64 note, .int .i64 inst, .int .i64 vc, .int .i64 va, .int .i64 e, .int .i64 p] 23)).cell? ⟨w.heap.size, 5, none⟩ = some (.int .i64 p) := by simp
  have HB : BelowW w (w.alloc (.cells #[.int .i64 note, .int .i64 inst, .int .i64 vc, .int .i64 va, .int .i64 e, .int .i64 p] 23)) := below1 w (.cells #[.int .i64 note, .int .i64 inst, .int .i64 vc, .int .i64 va, .int .i64 e, .int .i64 p] 23)
  go_enter Tryz.func24, Tryz.ntmps24
  go_upto_region 1 with (fail)
  generalize w.alloc (.cells #[.int .i64 note, .int .i64 inst, .int .i64 vc, .int .i64 va, .int .i64 e, .int .i64 p] 23) = w1 at *
  generalize w.heap.size = g at *
  go_cut [3] (fun s wx => s = .bool (noteB note) ∧ w1 = wx)
  case first =>
    by_cases h1 : 0 ≤ note
    · have bh1 : decide (0 ≤ note) = true := decide_eq_true h1
      by_cases h2 : note ≤ 120
      · have bh2 : decide (note ≤ 120) = true := decide_eq_true h2
        have Hh1 := hid h1; clear h1
        have Hh2 := hid h2; clear h2
        go_wp2_with fail
        go_meet
        have h1x := Hh1.out
        have h2x := Hh2.out
        exact ⟨by first | exact bool_t (noteB_iff _) (by omega) | exact bool_f (noteB_iff _) (by omega), rfl⟩
      · have bh2 : decide (note ≤ 120) = false := decide_eq_false h2
        by_cases h3 : note = 253
        · have bh3 : (note == 253) = true := beq_true h3
          have Hh1 := hid h1; clear h1
          have Hh2 := hid h2; clear h2
          have Hh3 := hid h3; clear h3
          go_wp2_with fail
          go_meet
          have h1x := Hh1.out
          have h2x := Hh2.out
          have h3x := Hh3.out
          exact ⟨by first | exact bool_t (noteB_iff _) (by omega) | exact bool_f (noteB_iff _) (by omega), rfl⟩
        · have bh3 : (note == 253) = false := beq_false h3
          by_cases h4 : note = 254
          · have bh4 : (note == 254) = true := beq_true h4
            have Hh1 := hid h1; clear h1
            have Hh2 := hid h2; clear h2
            have Hh3 := hid h3; clear h3
            have Hh4 := hid h4; clear h4
            go_wp2_with fail
            go_meet
            have h1x := Hh1.out
            have h2x := Hh2.out
            have h3x := Hh3.out
            have h4x := Hh4.out
            exact ⟨by first | exact bool_t (noteB_iff _) (by omega) | exact bool_f (noteB_iff _) (by omega), rfl⟩
          · have bh4 : (note == 254) = false := beq_false h4
            by_cases h5 : note = 255
            · have bh5 : (note == 255) = true := beq_true h5
              have Hh1 := hid h1; clear h1
              have Hh2 := hid h2; clear h2
              have Hh3 := hid h3; clear h3
              have Hh4 := hid h4; clear h4
              have Hh5 := hid h5; clear h5
              go_wp2_with fail
              go_meet
              have h1x := Hh1.out
              have h2x := Hh2.out
              have h3x := Hh3.out
              have h4x := Hh4.out
              have h5x := Hh5.out
              exact ⟨by first | exact bool_t (noteB_iff _) (by omega) | exact bool_f (noteB_iff _) (by omega), rfl⟩
            · have bh5 : (note == 255) = false := beq_false h5
              have Hh1 := hid h1; clear h1
              have Hh2 := hid h2; clear h2
              have Hh3 := hid h3; clear h3
              have Hh4 := hid h4; clear h4
              have Hh5 := hid h5; clear h5
              go_wp2_with fail
              go_meet
              have h1x := Hh1.out
              have h2x := Hh2.out
              have h3x := Hh3.out
              have h4x := Hh4.out
              have h5x := Hh5.out
              exact ⟨by first | exact bool_t (noteB_iff _) (by omega) | exact bool_f (noteB_iff _) (by omega), rfl⟩
    · have bh1 : decide (0 ≤ note) = false := decide_eq_false h1
      by_cases h6 : note = 253
      · have bh6 : (note == 253) = true := beq_true h6
        have Hh1 := hid h1; clear h1
        have Hh6 := hid h6; clear h6
        go_wp2_with fail
        go_meet
        have h1x := Hh1.out
        have h6x := Hh6.out
        exact ⟨by first | exact bool_t (noteB_iff _) (by omega) | exact bool_f (noteB_iff _) (by omega), rfl⟩
      · have bh6 : (note == 253) = false := beq_false h6
        by_cases h7 : note = 254
        · have bh7 : (note == 254) = true := beq_true h7
          have Hh1 := hid h1; clear h1
          have Hh6 := hid h6; clear h6
          have Hh7 := hid h7; clear h7
          go_wp2_with fail
          go_meet
          have h1x := Hh1.out
          have h6x := Hh6.out
          have h7x := Hh7.out
          exact ⟨by first | exact bool_t (noteB_iff _) (by omega) | exact bool_f (noteB_iff _) (by omega), rfl⟩
        · have bh7 : (note == 254) = false := beq_false h7
          by_cases h8 : note = 255
          · have bh8 : (note == 255) = true := beq_true h8
            have Hh1 := hid h1; clear h1
            have Hh6 := hid h6; clear h6
            have Hh7 := hid h7; clear h7
            have Hh8 := hid h8; clear h8
            go_wp2_with fail
            go_meet
            have h1x := Hh1.out
            have h6x := Hh6.out
            have h7x := Hh7.out
            have h8x := Hh8.out
            exact ⟨by first | exact bool_t (noteB_iff _) (by omega) | exact bool_f (noteB_iff _) (by omega), rfl⟩
          · have bh8 : (note == 255) = false := beq_false h8
            have Hh1 := hid h1; clear h1
            have Hh6 := hid h6; clear h6
            have Hh7 := hid h7; clear h7
            have Hh8 := hid h8; clear h8
            go_wp2_with fail
            go_meet
            have h1x := Hh1.out
            have h6x := Hh6.out
            have h7x := Hh7.out
            have h8x := Hh8.out
            exact ⟨by first | exact bool_t (noteB_iff _) (by omega) | exact bool_f (noteB_iff _) (by omega), rfl⟩
  case rest =>
    obtain ⟨rfl, rfl⟩ := hcut
    go_upto_region 2 with (fail)
    go_cut [4] (fun s wx => s = .bool (volB vc va) ∧ w1 = wx)
    case first =>
      by_cases h1 : vc = 0
      · have bh1 : (vc == 0) = true := beq_true h1
        by_cases h2 : va = 0
        · have bh2 : (va == 0) = true := beq_true h2
          have Hh1 := hid h1; clear h1
          have Hh2 := hid h2; clear h2
          go_wp2_with fail
          go_meet
          have h1x := Hh1.out
          have h2x := Hh2.out
          exact ⟨by first | exact bool_t (volB_iff _ _) (by omega) | exact bool_f (volB_iff _ _) (by omega), rfl⟩
        · have bh2 : (va == 0) = false := beq_false h2
          by_cases h3 : 1 ≤ vc
          · have bh3 : decide (1 ≤ vc) = true := decide_eq_true h3
            by_cases h4 : vc ≤ 12
            · have bh4 : decide (vc ≤ 12) = true := decide_eq_true h4
              by_cases h5 : 0 ≤ va
              · have bh5 : decide (0 ≤ va) = true := decide_eq_true h5
                by_cases h6 : va ≤ 99
                · have bh6 : decide (va ≤ 99) = true := decide_eq_true h6
                  have Hh1 := hid h1; clear h1
                  have Hh2 := hid h2; clear h2
                  have Hh3 := hid h3; clear h3
                  have Hh4 := hid h4; clear h4
                  have Hh5 := hid h5; clear h5
                  have Hh6 := hid h6; clear h6
                  go_wp2_with fail
                  go_meet
                  have h1x := Hh1.out
                  have h2x := Hh2.out
                  have h3x := Hh3.out
                  have h4x := Hh4.out
                  have h5x := Hh5.out
                  have h6x := Hh6.out
                  exact ⟨by first | exact bool_t (volB_iff _ _) (by omega) | exact bool_f (volB_iff _ _) (by omega), rfl⟩
                · have bh6 : decide (va ≤ 99) = false := decide_eq_false h6
                  have Hh1 := hid h1; clear h1
                  have Hh2 := hid h2; clear h2
                  have Hh3 := hid h3; clear h3
                  have Hh4 := hid h4; clear h4
                  have Hh5 := hid h5; clear h5
                  have Hh6 := hid h6; clear h6
                  go_wp2_with fail
                  go_meet
                  have h1x := Hh1.out
                  have h2x := Hh2.out
                  have h3x := Hh3.out
                  have h4x := Hh4.out
                  have h5x := Hh5.out
                  have h6x := Hh6.out
                  exact ⟨by first | exact bool_t (volB_iff _ _) (by omega) | exact bool_f (volB_iff _ _) (by omega), rfl⟩
              · have bh5 : decide (0 ≤ va) = false := decide_eq_false h5
                have Hh1 := hid h1; clear h1
                have Hh2 := hid h2; clear h2
                have Hh3 := hid h3; clear h3
                have Hh4 := hid h4; clear h4
                have Hh5 := hid h5; clear h5
                go_wp2_with fail
                go_meet
                have h1x := Hh1.out
                have h2x := Hh2.out
                have h3x := Hh3.out
                have h4x := Hh4.out
                have h5x := Hh5.out
                exact ⟨by first | exact bool_t (volB_iff _ _) (by omega) | exact bool_f (volB_iff _ _) (by omega), rfl⟩
            · have bh4 : decide (vc ≤ 12) = false := decide_eq_false h4
              have Hh1 := hid h1; clear h1
              have Hh2 := hid h2; clear h2
              have Hh3 := hid h3; clear h3
              have Hh4 := hid h4; clear h4
              go_wp2_with fail
              go_meet
              have h1x := Hh1.out
              have h2x := Hh2.out
              have h3x := Hh3.out
              have h4x := Hh4.out
              exact ⟨by first | exact bool_t (volB_iff _ _) (by omega) | exact bool_f (volB_iff _ _) (by omega), rfl⟩
          · have bh3 : decide (1 ≤ vc) = false := decide_eq_false h3
            have Hh1 := hid h1; clear h1
            have Hh2 := hid h2; clear h2
            have Hh3 := hid h3; clear h3
            go_wp2_with fail
            go_meet
            have h1x := Hh1.out
            have h2x := Hh2.out
            have h3x := Hh3.out
            exact ⟨by first | exact bool_t (volB_iff _ _) (by omega) | exact bool_f (volB_iff _ _) (by omega), rfl⟩
      · have bh1 : (vc == 0) = false := beq_false h1
        by_cases h7 : 1 ≤ vc
        · have bh7 : decide (1 ≤ vc) = true := decide_eq_true h7
          by_cases h8 : vc ≤ 12
          · have bh8 : decide (vc ≤ 12) = true := decide_eq_true h8
            by_cases h9 : 0 ≤ va
            · have bh9 : decide (0 ≤ va) = true := decide_eq_true h9
              by_cases h10 : va ≤ 99
              · have bh10 : decide (va ≤ 99) = true := decide_eq_true h10
                have Hh1 := hid h1; clear h1
                have Hh7 := hid h7; clear h7
                have Hh8 := hid h8; clear h8
                have Hh9 := hid h9; clear h9
                have Hh10 := hid h10; clear h10
                go_wp2_with fail
                go_meet
                have h1x := Hh1.out
                have h7x := Hh7.out
                have h8x := Hh8.out
                have h9x := Hh9.out
                have h10x := Hh10.out
                exact ⟨by first | exact bool_t (volB_iff _ _) (by omega) | exact bool_f (volB_iff _ _) (by omega), rfl⟩
              · have bh10 : decide (va ≤ 99) = false := decide_eq_false h10
                have Hh1 := hid h1; clear h1
                have Hh7 := hid h7; clear h7
                have Hh8 := hid h8; clear h8
                have Hh9 := hid h9; clear h9
                have Hh10 := hid h10; clear h10
                go_wp2_with fail
                go_meet
                have h1x := Hh1.out
                have h7x := Hh7.out
                have h8x := Hh8.out
                have h9x := Hh9.out
                have h10x := Hh10.out
                exact ⟨by first | exact bool_t (volB_iff _ _) (by omega) | exact bool_f (volB_iff _ _) (by omega), rfl⟩
            · have bh9 : decide (0 ≤ va) = false := decide_eq_false h9
              have Hh1 := hid h1; clear h1
              have Hh7 := hid h7; clear h7
              have Hh8 := hid h8; clear h8
              have Hh9 := hid h9; clear h9
              go_wp2_with fail
              go_meet
              have h1x := Hh1.out
              have h7x := Hh7.out
              have h8x := Hh8.out
              have h9x := Hh9.out
              exact ⟨by first | exact bool_t (volB_iff _ _) (by omega) | exact bool_f (volB_iff _ _) (by omega), rfl⟩
          · have bh8 : decide (vc ≤ 12) = false := decide_eq_false h8
            have Hh1 := hid h1; clear h1
            have Hh7 := hid h7; clear h7
            have Hh8 := hid h8; clear h8
            go_wp2_with fail
            go_meet
            have h1x := Hh1.out
            have h7x := Hh7.out
            have h8x := Hh8.out
            exact ⟨by first | exact bool_t (volB_iff _ _) (by omega) | exact bool_f (volB_iff _ _) (by omega), rfl⟩
        · have bh7 : decide (1 ≤ vc) = false := decide_eq_false h7
          have Hh1 := hid h1; clear h1
          have Hh7 := hid h7; clear h7
          go_wp2_with fail
          go_meet
          have h1x := Hh1.out
          have h7x := Hh7.out
          exact ⟨by first | exact bool_t (volB_iff _ _) (by omega) | exact bool_f (volB_iff _ _) (by omega), rfl⟩
    case rest =>
      obtain ⟨rfl, rfl⟩ := hcut
      go_upto_region 3 with (fail)
      go_cut [5] (fun s wx => s = .bool (effB e p) ∧ w1 = wx)
      case first =>
        by_cases h1 : e = 0
        · have bh1 : (e == 0) = true := beq_true h1
          by_cases h2 : p = 0
          · have bh2 : (p == 0) = true := beq_true h2
            have Hh1 := hid h1; clear h1
            have Hh2 := hid h2; clear h2
            go_wp2_with fail
            go_meet
            have h1x := Hh1.out
            have h2x := Hh2.out
            exact ⟨by first | exact bool_t (effB_iff _ _) (by omega) | exact bool_f (effB_iff _ _) (by omega), rfl⟩
          · have bh2 : (p == 0) = false := beq_false h2
            by_cases h3 : 1 ≤ e
            · have bh3 : decide (1 ≤ e) = true := decide_eq_true h3
              by_cases h4 : e ≤ 36
              · have bh4 : decide (e ≤ 36) = true := decide_eq_true h4
                by_cases h5 : 0 ≤ p
                · have bh5 : decide (0 ≤ p) = true := decide_eq_true h5
                  by_cases h6 : p ≤ 255
                  · have bh6 : decide (p ≤ 255) = true := decide_eq_true h6
                    have Hh1 := hid h1; clear h1
                    have Hh2 := hid h2; clear h2
                    have Hh3 := hid h3; clear h3
                    have Hh4 := hid h4; clear h4
                    have Hh5 := hid h5; clear h5
                    have Hh6 := hid h6; clear h6
                    go_wp2_with fail
                    go_meet
                    have h1x := Hh1.out
                    have h2x := Hh2.out
                    have h3x := Hh3.out
                    have h4x := Hh4.out
                    have h5x := Hh5.out
                    have h6x := Hh6.out
                    exact ⟨by first | exact bool_t (effB_iff _ _) (by omega) | exact bool_f (effB_iff _ _) (by omega), rfl⟩
                  · have bh6 : decide (p ≤ 255) = false := decide_eq_false h6
                    have Hh1 := hid h1; clear h1
                    have Hh2 := hid h2; clear h2
                    have Hh3 := hid h3; clear h3
                    have Hh4 := hid h4; clear h4
                    have Hh5 := hid h5; clear h5
                    have Hh6 := hid h6; clear h6
                    go_wp2_with fail
                    go_meet
                    have h1x := Hh1.out
                    have h2x := Hh2.out
                    have h3x := Hh3.out
                    have h4x := Hh4.out
                    have h5x := Hh5.out
                    have h6x := Hh6.out
                    exact ⟨by first | exact bool_t (effB_iff _ _) (by omega) | exact bool_f (effB_iff _ _) (by omega), rfl⟩
                · have bh5 : decide (0 ≤ p) = false := decide_eq_false h5
                  have Hh1 := hid h1; clear h1
                  have Hh2 := hid h2; clear h2
                  have Hh3 := hid h3; clear h3
                  have Hh4 := hid h4; clear h4
                  have Hh5 := hid h5; clear h5
                  go_wp2_with fail
                  go_meet
                  have h1x := Hh1.out
                  have h2x := Hh2.out
                  have h3x := Hh3.out
                  have h4x := Hh4.out
                  have h5x := Hh5.out
                  exact ⟨by first | exact bool_t (effB_iff _ _) (by omega) | exact bool_f (effB_iff _ _) (by omega), rfl⟩
              · have bh4 : decide (e ≤ 36) = false := decide_eq_false h4
                have Hh1 := hid h1; clear h1
                have Hh2 := hid h2; clear h2
                have Hh3 := hid h3; clear h3
                have Hh4 := hid h4; clear h4
                go_wp2_with fail
                go_meet
                have h1x := Hh1.out
                have h2x := Hh2.out
                have h3x := Hh3.out
                have h4x := Hh4.out
                exact ⟨by first | exact bool_t (effB_iff _ _) (by omega) | exact bool_f (effB_iff _ _) (by omega), rfl⟩
            · have bh3 : decide (1 ≤ e) = false := decide_eq_false h3
              have Hh1 := hid h1; clear h1
              have Hh2 := hid h2; clear h2
              have Hh3 := hid h3; clear h3
              go_wp2_with fail
              go_meet
              have h1x := Hh1.out
              have h2x := Hh2.out
              have h3x := Hh3.out
              exact ⟨by first | exact bool_t (effB_iff _ _) (by omega) | exact bool_f (effB_iff _ _) (by omega), rfl⟩
        · have bh1 : (e == 0) = false := beq_false h1
          by_cases h7 : 1 ≤ e
          · have bh7 : decide (1 ≤ e) = true := decide_eq_true h7
            by_cases h8 : e ≤ 36
            · have bh8 : decide (e ≤ 36) = true := decide_eq_true h8
              by_cases h9 : 0 ≤ p
              · have bh9 : decide (0 ≤ p) = true := decide_eq_true h9
                by_cases h10 : p ≤ 255
                · have bh10 : decide (p ≤ 255) = true := decide_eq_true h10
                  have Hh1 := hid h1; clear h1
                  have Hh7 := hid h7; clear h7
                  have Hh8 := hid h8; clear h8
                  have Hh9 := hid h9; clear h9
                  have Hh10 := hid h10; clear h10
                  go_wp2_with fail
                  go_meet
                  have h1x := Hh1.out
                  have h7x := Hh7.out
                  have h8x := Hh8.out
                  have h9x := Hh9.out
                  have h10x := Hh10.out
                  exact ⟨by first | exact bool_t (effB_iff _ _) (by omega) | exact bool_f (effB_iff _ _) (by omega), rfl⟩
                · have bh10 : decide (p ≤ 255) = false := decide_eq_false h10
                  have Hh1 := hid h1; clear h1
                  have Hh7 := hid h7; clear h7
                  have Hh8 := hid h8; clear h8
                  have Hh9 := hid h9; clear h9
                  have Hh10 := hid h10; clear h10
                  go_wp2_with fail
                  go_meet
                  have h1x := Hh1.out
                  have h7x := Hh7.out
                  have h8x := Hh8.out
                  have h9x := Hh9.out
                  have h10x := Hh10.out
                  exact ⟨by first | exact bool_t (effB_iff _ _) (by omega) | exact bool_f (effB_iff _ _) (by omega), rfl⟩
              · have bh9 : decide (0 ≤ p) = false := decide_eq_false h9
                have Hh1 := hid h1; clear h1
                have Hh7 := hid h7; clear h7
                have Hh8 := hid h8; clear h8
                have Hh9 := hid h9; clear h9
                go_wp2_with fail
                go_meet
                have h1x := Hh1.out
                have h7x := Hh7.out
                have h8x := Hh8.out
                have h9x := Hh9.out
                exact ⟨by first | exact bool_t (effB_iff _ _) (by omega) | exact bool_f (effB_iff _ _) (by omega), rfl⟩
            · have bh8 : decide (e ≤ 36) = false := decide_eq_false h8
              have Hh1 := hid h1; clear h1
              have Hh7 := hid h7; clear h7
              have Hh8 := hid h8; clear h8
              go_wp2_with fail
              go_meet
              have h1x := Hh1.out
              have h7x := Hh7.out
              have h8x := Hh8.out
              exact ⟨by first | exact bool_t (effB_iff _ _) (by omega) | exact bool_f (effB_iff _ _) (by omega), rfl⟩
          · have bh7 : decide (1 ≤ e) = false := decide_eq_false h7
            have Hh1 := hid h1; clear h1
            have Hh7 := hid h7; clear h7
            go_wp2_with fail
            go_meet
            have h1x := Hh1.out
            have h7x := Hh7.out
            exact ⟨by first | exact bool_t (effB_iff _ _) (by omega) | exact bool_f (effB_iff _ _) (by omega), rfl⟩
      case rest =>
        obtain ⟨rfl, rfl⟩ := hcut
        have CB : Hid (cellB note inst vc va e p = (noteB note && inr inst 0 31 && volB vc va && effB e p)) := hid rfl
        generalize noteB note = n0 at *
        generalize volB vc va = n1 at *
        generalize effB e p = n2 at *
        generalize hI : inr inst 0 31 = n3 at *
        have HI := hid hI
        clear hI
        by_cases i0 : 0 ≤ inst
        · have b0 : decide (0 ≤ inst) = true := decide_eq_true i0
          by_cases i1 : inst ≤ 31
          · have b1 : decide (inst ≤ 31) = true := decide_eq_true i1
            have e3 : n3 = true := by rw [← HI.out]; exact (inr_iff _ _ _).2 ⟨i0, i1⟩
            subst e3
            clear HI
            cases n0 <;> cases n1 <;> cases n2
            all_goals (go_wp2_with fail; go_ret; exact ⟨by rw [CB.out]; rfl, HB⟩)
          · have b1 : decide (inst ≤ 31) = false := decide_eq_false i1
            have e3 : n3 = false := by rw [← HI.out]; unfold inr; rw [b0, b1]; rfl
            subst e3
            clear HI
            cases n0 <;> cases n1 <;> cases n2
            all_goals (go_wp2_with fail; go_ret; exact ⟨by rw [CB.out]; rfl, HB⟩)
        · have b0 : decide (0 ≤ inst) = false := decide_eq_false i0
          have e3 : n3 = false := by rw [← HI.out]; unfold inr; rw [b0]; rfl
          subst e3
          clear HI
          cases n0 <;> cases n1 <;> cases n2
          all_goals (go_wp2_with fail; go_ret; exact ⟨by rw [CB.out]; rfl, HB⟩)
end Go.Proofs.YtkpielgdfahanaaGreat
