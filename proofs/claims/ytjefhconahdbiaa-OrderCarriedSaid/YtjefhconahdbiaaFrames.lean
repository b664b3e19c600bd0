/- order.Frames and the reference's Frames return the same frames, rest and error, for all numbers. -/
import Derived.Test.YtjefhconahdbiaaQuirks
import Derived.BigQuiet
import Derived.Deep.QuietTactic
import Derived.RegionTactic
namespace Go.Proofs.Ytjefhconahdbiaa
open Go.RowKit
def badRange (out tempo carry : Int) : Prop := out < 1000 ∨ 96000 < out ∨ tempo < 32 ∨ 255 < tempo ∨ carry < 0 ∨ 509 < carry
instance (a b c : Int) : Decidable (badRange a b c) := by unfold badRange; exact inferInstance
def frameS (d out tempo carry : Int) : Int × Int × Int :=
  if ¬ (1 ≤ d ∧ d ≤ 6) then (0, 0, 6) else if badRange out tempo carry then (0, 0, 5)
  else if carries d then ((5 * out + carry) / (2 * tempo), (5 * out + carry) % (2 * tempo), 0) else (5 * out / (2 * tempo), 0, 0)
def Framed (d out tempo carry : Int) (w : World) (e : Ending) (w' : World) : Prop :=
  e = .returned (.tuple #[.int .i64 (frameS d out tempo carry).1, .int .i64 (frameS d out tempo carry).2.1, .int .i64 (frameS d out tempo carry).2.2]) ∧ Below w.heap.size w w'
theorem framed_of {d out tempo carry a b c : Int} {w w' : World} (h : frameS d out tempo carry = (a, b, c)) (hb : Below w.heap.size w w') :
    Framed d out tempo carry w (.returned (.tuple #[.int .i64 a, .int .i64 b, .int .i64 c])) w' := by unfold Framed; rw [h]; exact ⟨rfl, hb⟩
theorem frame_no {d out tempo carry : Int} (h : ¬ (1 ≤ d ∧ d ≤ 6)) : frameS d out tempo carry = (0, 0, 6) := if_pos h
theorem frame_bad {d out tempo carry : Int} (h : 1 ≤ d ∧ d ≤ 6) (hb : badRange out tempo carry) : frameS d out tempo carry = (0, 0, 5) := by
  unfold frameS; rw [if_neg (by simpa using h), if_pos hb]
theorem frame_carry {d out tempo carry : Int} (h : 1 ≤ d ∧ d ≤ 6) (hb : ¬ badRange out tempo carry) (hc : carries d = true) : frameS d out tempo carry = ((5 * out + carry) / (2 * tempo), (5 * out + carry) % (2 * tempo), 0) := by
  unfold frameS; rw [if_neg (by simpa using h), if_neg hb, if_pos hc]
theorem frame_plain {d out tempo carry : Int} (h : 1 ≤ d ∧ d ≤ 6) (hb : ¬ badRange out tempo carry) (hc : carries d = false) : frameS d out tempo carry = (5 * out / (2 * tempo), 0, 0) := by
  unfold frameS; rw [if_neg (by simpa using h), if_neg hb, if_neg (by simp [hc])]
theorem cell_alloc_q (w : World) (d : Int) : (w.alloc (.cells (qz d) 32)).cell? ⟨w.heap.size, 23, none⟩ = some (.bool (carries d)) := by
  rw [World.cell?_alloc_at _ _ _ _ rfl, qz_carry]

set_option maxRecDepth 100000 in
set_option maxHeartbeats 1000000 in
theorem frames_no (d out tempo carry : Int) (w : World) (h : ¬ (1 ≤ d ∧ d ≤ 6)) :
    Calls Try.prog 17 #[.int .i64 d, .int .i64 out, .int .i64 tempo, .int .i64 carry] w (Framed d out tempo carry w) := by
  have HE : Hid (qe d = 6) := hid (if_neg h)
  have H := hid h; clear h
  go_enter Try.func17, Try.ntmps17
  go_wp2_with fail
  refine (quirks_any d _).mono ?_
  rintro e w1 ⟨rfl, hb⟩
  rw [HE.out]
  have HB := hid (Below.grow hb (.cells (qz d) 32)); clear hb
  go_wp2_with (refine wpList_store_new rfl 32 _ _ rfl _ (qz d) rfl rfl (infoq d) (by rw [qz_size]; rfl) (qz_one d) ?_)
  go_ret3
  exact framed_of (frame_no H.out) HB.out

set_option maxRecDepth 100000 in
set_option maxHeartbeats 1000000 in
theorem frames_bad1 (d out tempo carry : Int) (w : World) (h : 1 ≤ d ∧ d ≤ 6) (h1 : out < 1000) :
    Calls Try.prog 17 #[.int .i64 d, .int .i64 out, .int .i64 tempo, .int .i64 carry] w (Framed d out tempo carry w) := by
  have HE : Hid (qe d = 0) := hid (if_pos h)
  have H := hid h; clear h
  have HX : Hid (badRange out tempo carry) := hid (by unfold badRange; omega)
  go_enter Try.func17, Try.ntmps17
  go_wp2_with fail
  refine (quirks_any d _).mono ?_
  rintro e w1 ⟨rfl, hb⟩
  rw [HE.out]
  have HB := hid (Below.grow hb (.cells (qz d) 32)); clear hb
  go_wp2_with (refine wpList_store_new rfl 32 _ _ rfl _ (qz d) rfl rfl (infoq d) (by rw [qz_size]; rfl) (qz_one d) ?_)
  go_ret3
  exact framed_of (frame_bad H.out HX.out) HB.out

set_option maxRecDepth 100000 in
set_option maxHeartbeats 1000000 in
theorem frames_bad2 (d out tempo carry : Int) (w : World) (h : 1 ≤ d ∧ d ≤ 6) (h1 : ¬ out < 1000) (h2 : 96000 < out) :
    Calls Try.prog 17 #[.int .i64 d, .int .i64 out, .int .i64 tempo, .int .i64 carry] w (Framed d out tempo carry w) := by
  have HE : Hid (qe d = 0) := hid (if_pos h)
  have H := hid h; clear h
  have HX : Hid (badRange out tempo carry) := hid (by unfold badRange; omega)
  go_enter Try.func17, Try.ntmps17
  go_wp2_with fail
  refine (quirks_any d _).mono ?_
  rintro e w1 ⟨rfl, hb⟩
  rw [HE.out]
  have HB := hid (Below.grow hb (.cells (qz d) 32)); clear hb
  go_wp2_with (refine wpList_store_new rfl 32 _ _ rfl _ (qz d) rfl rfl (infoq d) (by rw [qz_size]; rfl) (qz_one d) ?_)
  go_ret3
  exact framed_of (frame_bad H.out HX.out) HB.out

set_option maxRecDepth 100000 in
set_option maxHeartbeats 1000000 in
theorem frames_bad3 (d out tempo carry : Int) (w : World) (h : 1 ≤ d ∧ d ≤ 6) (h1 : ¬ out < 1000) (h2 : ¬ 96000 < out) (h3 : tempo < 32) :
    Calls Try.prog 17 #[.int .i64 d, .int .i64 out, .int .i64 tempo, .int .i64 carry] w (Framed d out tempo carry w) := by
  have HE : Hid (qe d = 0) := hid (if_pos h)
  have H := hid h; clear h
  have HX : Hid (badRange out tempo carry) := hid (by unfold badRange; omega)
  go_enter Try.func17, Try.ntmps17
  go_wp2_with fail
  refine (quirks_any d _).mono ?_
  rintro e w1 ⟨rfl, hb⟩
  rw [HE.out]
  have HB := hid (Below.grow hb (.cells (qz d) 32)); clear hb
  go_wp2_with (refine wpList_store_new rfl 32 _ _ rfl _ (qz d) rfl rfl (infoq d) (by rw [qz_size]; rfl) (qz_one d) ?_)
  go_ret3
  exact framed_of (frame_bad H.out HX.out) HB.out

set_option maxRecDepth 100000 in
set_option maxHeartbeats 1000000 in
theorem frames_bad4 (d out tempo carry : Int) (w : World) (h : 1 ≤ d ∧ d ≤ 6) (h1 : ¬ out < 1000) (h2 : ¬ 96000 < out) (h3 : ¬ tempo < 32) (h4 : 255 < tempo) :
    Calls Try.prog 17 #[.int .i64 d, .int .i64 out, .int .i64 tempo, .int .i64 carry] w (Framed d out tempo carry w) := by
  have HE : Hid (qe d = 0) := hid (if_pos h)
  have H := hid h; clear h
  have HX : Hid (badRange out tempo carry) := hid (by unfold badRange; omega)
  go_enter Try.func17, Try.ntmps17
  go_wp2_with fail
  refine (quirks_any d _).mono ?_
  rintro e w1 ⟨rfl, hb⟩
  rw [HE.out]
  have HB := hid (Below.grow hb (.cells (qz d) 32)); clear hb
  go_wp2_with (refine wpList_store_new rfl 32 _ _ rfl _ (qz d) rfl rfl (infoq d) (by rw [qz_size]; rfl) (qz_one d) ?_)
  go_ret3
  exact framed_of (frame_bad H.out HX.out) HB.out

set_option maxRecDepth 100000 in
set_option maxHeartbeats 1000000 in
theorem frames_bad5 (d out tempo carry : Int) (w : World) (h : 1 ≤ d ∧ d ≤ 6) (h1 : ¬ out < 1000) (h2 : ¬ 96000 < out) (h3 : ¬ tempo < 32) (h4 : ¬ 255 < tempo) (h5 : carry < 0) :
    Calls Try.prog 17 #[.int .i64 d, .int .i64 out, .int .i64 tempo, .int .i64 carry] w (Framed d out tempo carry w) := by
  have HE : Hid (qe d = 0) := hid (if_pos h)
  have H := hid h; clear h
  have HX : Hid (badRange out tempo carry) := hid (by unfold badRange; omega)
  go_enter Try.func17, Try.ntmps17
  go_wp2_with fail
  refine (quirks_any d _).mono ?_
  rintro e w1 ⟨rfl, hb⟩
  rw [HE.out]
  have HB := hid (Below.grow hb (.cells (qz d) 32)); clear hb
  go_wp2_with (refine wpList_store_new rfl 32 _ _ rfl _ (qz d) rfl rfl (infoq d) (by rw [qz_size]; rfl) (qz_one d) ?_)
  go_ret3
  exact framed_of (frame_bad H.out HX.out) HB.out

set_option maxRecDepth 100000 in
set_option maxHeartbeats 1000000 in
theorem frames_bad6 (d out tempo carry : Int) (w : World) (h : 1 ≤ d ∧ d ≤ 6) (h1 : ¬ out < 1000) (h2 : ¬ 96000 < out) (h3 : ¬ tempo < 32) (h4 : ¬ 255 < tempo) (h5 : ¬ carry < 0) (h6 : 509 < carry) :
    Calls Try.prog 17 #[.int .i64 d, .int .i64 out, .int .i64 tempo, .int .i64 carry] w (Framed d out tempo carry w) := by
  have HE : Hid (qe d = 0) := hid (if_pos h)
  have H := hid h; clear h
  have HX : Hid (badRange out tempo carry) := hid (by unfold badRange; omega)
  go_enter Try.func17, Try.ntmps17
  go_wp2_with fail
  refine (quirks_any d _).mono ?_
  rintro e w1 ⟨rfl, hb⟩
  rw [HE.out]
  have HB := hid (Below.grow hb (.cells (qz d) 32)); clear hb
  go_wp2_with (refine wpList_store_new rfl 32 _ _ rfl _ (qz d) rfl rfl (infoq d) (by rw [qz_size]; rfl) (qz_one d) ?_)
  go_ret3
  exact framed_of (frame_bad H.out HX.out) HB.out

set_option maxRecDepth 100000 in
set_option maxHeartbeats 1000000 in
theorem frames_ok (d out tempo carry : Int) (w : World) (h : 1 ≤ d ∧ d ≤ 6) (g1 : 1000 ≤ out) (g2 : out ≤ 96000) (g3 : 32 ≤ tempo) (g4 : tempo ≤ 255) (g5 : 0 ≤ carry) (g6 : carry ≤ 509) :
    Calls Try.prog 17 #[.int .i64 d, .int .i64 out, .int .i64 tempo, .int .i64 carry] w (Framed d out tempo carry w) := by
  have HE : Hid (qe d = 0) := hid (if_pos h)
  have H := hid h; clear h
  have HX : Hid (¬ badRange out tempo carry) := hid (by unfold badRange; omega)
  have hc := cell_alloc_q
  go_enter Try.func17, Try.ntmps17
  go_wp2_with fail
  refine (quirks_any d _).mono ?_
  rintro e w1 ⟨rfl, hb⟩
  rw [HE.out]
  have HB := hid (Below.grow hb (.cells (qz d) 32)); clear hb
  have hq := hc w1 d
  clear hc
  cases hcar : carries d with
  | false =>
    have HC := hid hcar
    rw [hcar] at hq
    clear hcar
    go_wp2_with (refine wpList_store_new rfl 32 _ _ rfl _ (qz d) rfl rfl (infoq d) (by rw [qz_size]; rfl) (qz_one d) ?_)
    go_ret3
    exact framed_of (frame_plain H.out HX.out HC.out) HB.out
  | true =>
    have HC := hid hcar
    rw [hcar] at hq
    clear hcar
    go_wp2_with (refine wpList_store_new rfl 32 _ _ rfl _ (qz d) rfl rfl (infoq d) (by rw [qz_size]; rfl) (qz_one d) ?_)
    have hne : ¬ (2 * tempo = 0) := by omega
    go_quiet (fail)
    go_wp2
    go_ret3
    exact framed_of (frame_carry H.out HX.out HC.out) (HB.out.trans ⟨rfl, rfl, rfl, Nat.le_refl _, fun _ _ => rfl⟩)

theorem frames_any (d out tempo carry : Int) (w : World) : Calls Try.prog 17 #[.int .i64 d, .int .i64 out, .int .i64 tempo, .int .i64 carry] w (Framed d out tempo carry w) := by
  by_cases h : 1 ≤ d ∧ d ≤ 6
  · by_cases h1 : out < 1000
    · exact frames_bad1 d out tempo carry w h h1
    by_cases h2 : 96000 < out
    · exact frames_bad2 d out tempo carry w h h1 h2
    by_cases h3 : tempo < 32
    · exact frames_bad3 d out tempo carry w h h1 h2 h3
    by_cases h4 : 255 < tempo
    · exact frames_bad4 d out tempo carry w h h1 h2 h3 h4
    by_cases h5 : carry < 0
    · exact frames_bad5 d out tempo carry w h h1 h2 h3 h4 h5
    by_cases h6 : 509 < carry
    · exact frames_bad6 d out tempo carry w h h1 h2 h3 h4 h5 h6
    · exact frames_ok d out tempo carry w h (by omega) (by omega) (by omega) (by omega) (by omega) (by omega)
  · exact frames_no d out tempo carry w h

set_option maxRecDepth 100000 in
set_option maxHeartbeats 1000000 in
theorem refframes_no (d out tempo carry : Int) (w : World) (h : ¬ (1 ≤ d ∧ d ≤ 6)) :
    Calls Try.prog 18 #[.int .i64 d, .int .i64 out, .int .i64 tempo, .int .i64 carry] w (Framed d out tempo carry w) := by
  have HE : Hid (qe d = 6) := hid (if_neg h)
  have H := hid h; clear h
  go_enter Try.func18, Try.ntmps18
  go_wp2_with fail
  refine (refquirks_any d _).mono ?_
  rintro e w1 ⟨rfl, hb⟩
  rw [HE.out]
  have HB := hid (Below.grow hb (.cells (qz d) 32)); clear hb
  go_wp2_with (refine wpList_store_new rfl 32 _ _ rfl _ (qz d) rfl rfl (infoq d) (by rw [qz_size]; rfl) (qz_one d) ?_)
  go_ret3
  exact framed_of (frame_no H.out) HB.out

set_option maxRecDepth 100000 in
set_option maxHeartbeats 1000000 in
theorem refframes_bad1 (d out tempo carry : Int) (w : World) (h : 1 ≤ d ∧ d ≤ 6) (h1 : out < 1000) :
    Calls Try.prog 18 #[.int .i64 d, .int .i64 out, .int .i64 tempo, .int .i64 carry] w (Framed d out tempo carry w) := by
  have HE : Hid (qe d = 0) := hid (if_pos h)
  have H := hid h; clear h
  have HX : Hid (badRange out tempo carry) := hid (by unfold badRange; omega)
  go_enter Try.func18, Try.ntmps18
  go_wp2_with fail
  refine (refquirks_any d _).mono ?_
  rintro e w1 ⟨rfl, hb⟩
  rw [HE.out]
  have HB := hid (Below.grow hb (.cells (qz d) 32)); clear hb
  go_wp2_with (refine wpList_store_new rfl 32 _ _ rfl _ (qz d) rfl rfl (infoq d) (by rw [qz_size]; rfl) (qz_one d) ?_)
  go_ret3
  exact framed_of (frame_bad H.out HX.out) HB.out

set_option maxRecDepth 100000 in
set_option maxHeartbeats 1000000 in
theorem refframes_bad2 (d out tempo carry : Int) (w : World) (h : 1 ≤ d ∧ d ≤ 6) (h1 : ¬ out < 1000) (h2 : 96000 < out) :
    Calls Try.prog 18 #[.int .i64 d, .int .i64 out, .int .i64 tempo, .int .i64 carry] w (Framed d out tempo carry w) := by
  have HE : Hid (qe d = 0) := hid (if_pos h)
  have H := hid h; clear h
  have HX : Hid (badRange out tempo carry) := hid (by unfold badRange; omega)
  go_enter Try.func18, Try.ntmps18
  go_wp2_with fail
  refine (refquirks_any d _).mono ?_
  rintro e w1 ⟨rfl, hb⟩
  rw [HE.out]
  have HB := hid (Below.grow hb (.cells (qz d) 32)); clear hb
  go_wp2_with (refine wpList_store_new rfl 32 _ _ rfl _ (qz d) rfl rfl (infoq d) (by rw [qz_size]; rfl) (qz_one d) ?_)
  go_ret3
  exact framed_of (frame_bad H.out HX.out) HB.out

set_option maxRecDepth 100000 in
set_option maxHeartbeats 1000000 in
theorem refframes_bad3 (d out tempo carry : Int) (w : World) (h : 1 ≤ d ∧ d ≤ 6) (h1 : ¬ out < 1000) (h2 : ¬ 96000 < out) (h3 : tempo < 32) :
    Calls Try.prog 18 #[.int .i64 d, .int .i64 out, .int .i64 tempo, .int .i64 carry] w (Framed d out tempo carry w) := by
  have HE : Hid (qe d = 0) := hid (if_pos h)
  have H := hid h; clear h
  have HX : Hid (badRange out tempo carry) := hid (by unfold badRange; omega)
  go_enter Try.func18, Try.ntmps18
  go_wp2_with fail
  refine (refquirks_any d _).mono ?_
  rintro e w1 ⟨rfl, hb⟩
  rw [HE.out]
  have HB := hid (Below.grow hb (.cells (qz d) 32)); clear hb
  go_wp2_with (refine wpList_store_new rfl 32 _ _ rfl _ (qz d) rfl rfl (infoq d) (by rw [qz_size]; rfl) (qz_one d) ?_)
  go_ret3
  exact framed_of (frame_bad H.out HX.out) HB.out

set_option maxRecDepth 100000 in
set_option maxHeartbeats 1000000 in
theorem refframes_bad4 (d out tempo carry : Int) (w : World) (h : 1 ≤ d ∧ d ≤ 6) (h1 : ¬ out < 1000) (h2 : ¬ 96000 < out) (h3 : ¬ tempo < 32) (h4 : 255 < tempo) :
    Calls Try.prog 18 #[.int .i64 d, .int .i64 out, .int .i64 tempo, .int .i64 carry] w (Framed d out tempo carry w) := by
  have HE : Hid (qe d = 0) := hid (if_pos h)
  have H := hid h; clear h
  have HX : Hid (badRange out tempo carry) := hid (by unfold badRange; omega)
  go_enter Try.func18, Try.ntmps18
  go_wp2_with fail
  refine (refquirks_any d _).mono ?_
  rintro e w1 ⟨rfl, hb⟩
  rw [HE.out]
  have HB := hid (Below.grow hb (.cells (qz d) 32)); clear hb
  go_wp2_with (refine wpList_store_new rfl 32 _ _ rfl _ (qz d) rfl rfl (infoq d) (by rw [qz_size]; rfl) (qz_one d) ?_)
  go_ret3
  exact framed_of (frame_bad H.out HX.out) HB.out

set_option maxRecDepth 100000 in
set_option maxHeartbeats 1000000 in
theorem refframes_bad5 (d out tempo carry : Int) (w : World) (h : 1 ≤ d ∧ d ≤ 6) (h1 : ¬ out < 1000) (h2 : ¬ 96000 < out) (h3 : ¬ tempo < 32) (h4 : ¬ 255 < tempo) (h5 : carry < 0) :
    Calls Try.prog 18 #[.int .i64 d, .int .i64 out, .int .i64 tempo, .int .i64 carry] w (Framed d out tempo carry w) := by
  have HE : Hid (qe d = 0) := hid (if_pos h)
  have H := hid h; clear h
  have HX : Hid (badRange out tempo carry) := hid (by unfold badRange; omega)
  go_enter Try.func18, Try.ntmps18
  go_wp2_with fail
  refine (refquirks_any d _).mono ?_
  rintro e w1 ⟨rfl, hb⟩
  rw [HE.out]
  have HB := hid (Below.grow hb (.cells (qz d) 32)); clear hb
  go_wp2_with (refine wpList_store_new rfl 32 _ _ rfl _ (qz d) rfl rfl (infoq d) (by rw [qz_size]; rfl) (qz_one d) ?_)
  go_ret3
  exact framed_of (frame_bad H.out HX.out) HB.out

set_option maxRecDepth 100000 in
set_option maxHeartbeats 1000000 in
theorem refframes_bad6 (d out tempo carry : Int) (w : World) (h : 1 ≤ d ∧ d ≤ 6) (h1 : ¬ out < 1000) (h2 : ¬ 96000 < out) (h3 : ¬ tempo < 32) (h4 : ¬ 255 < tempo) (h5 : ¬ carry < 0) (h6 : 509 < carry) :
    Calls Try.prog 18 #[.int .i64 d, .int .i64 out, .int .i64 tempo, .int .i64 carry] w (Framed d out tempo carry w) := by
  have HE : Hid (qe d = 0) := hid (if_pos h)
  have H := hid h; clear h
  have HX : Hid (badRange out tempo carry) := hid (by unfold badRange; omega)
  go_enter Try.func18, Try.ntmps18
  go_wp2_with fail
  refine (refquirks_any d _).mono ?_
  rintro e w1 ⟨rfl, hb⟩
  rw [HE.out]
  have HB := hid (Below.grow hb (.cells (qz d) 32)); clear hb
  go_wp2_with (refine wpList_store_new rfl 32 _ _ rfl _ (qz d) rfl rfl (infoq d) (by rw [qz_size]; rfl) (qz_one d) ?_)
  go_ret3
  exact framed_of (frame_bad H.out HX.out) HB.out

set_option maxRecDepth 100000 in
set_option maxHeartbeats 1000000 in
theorem refframes_ok (d out tempo carry : Int) (w : World) (h : 1 ≤ d ∧ d ≤ 6) (g1 : 1000 ≤ out) (g2 : out ≤ 96000) (g3 : 32 ≤ tempo) (g4 : tempo ≤ 255) (g5 : 0 ≤ carry) (g6 : carry ≤ 509) :
    Calls Try.prog 18 #[.int .i64 d, .int .i64 out, .int .i64 tempo, .int .i64 carry] w (Framed d out tempo carry w) := by
  have HE : Hid (qe d = 0) := hid (if_pos h)
  have H := hid h; clear h
  have HX : Hid (¬ badRange out tempo carry) := hid (by unfold badRange; omega)
  have hc := cell_alloc_q
  go_enter Try.func18, Try.ntmps18
  go_wp2_with fail
  refine (refquirks_any d _).mono ?_
  rintro e w1 ⟨rfl, hb⟩
  rw [HE.out]
  have HB := hid (Below.grow hb (.cells (qz d) 32)); clear hb
  have hq := hc w1 d
  clear hc
  cases hcar : carries d with
  | false =>
    have HC := hid hcar
    rw [hcar] at hq
    clear hcar
    go_wp2_with (refine wpList_store_new rfl 32 _ _ rfl _ (qz d) rfl rfl (infoq d) (by rw [qz_size]; rfl) (qz_one d) ?_)
    go_ret3
    exact framed_of (frame_plain H.out HX.out HC.out) HB.out
  | true =>
    have HC := hid hcar
    rw [hcar] at hq
    clear hcar
    go_wp2_with (refine wpList_store_new rfl 32 _ _ rfl _ (qz d) rfl rfl (infoq d) (by rw [qz_size]; rfl) (qz_one d) ?_)
    have hne : ¬ (2 * tempo = 0) := by omega
    go_quiet (fail)
    go_wp2
    go_ret3
    exact framed_of (frame_carry H.out HX.out HC.out) (HB.out.trans ⟨rfl, rfl, rfl, Nat.le_refl _, fun _ _ => rfl⟩)

theorem refframes_any (d out tempo carry : Int) (w : World) : Calls Try.prog 18 #[.int .i64 d, .int .i64 out, .int .i64 tempo, .int .i64 carry] w (Framed d out tempo carry w) := by
  by_cases h : 1 ≤ d ∧ d ≤ 6
  · by_cases h1 : out < 1000
    · exact refframes_bad1 d out tempo carry w h h1
    by_cases h2 : 96000 < out
    · exact refframes_bad2 d out tempo carry w h h1 h2
    by_cases h3 : tempo < 32
    · exact refframes_bad3 d out tempo carry w h h1 h2 h3
    by_cases h4 : 255 < tempo
    · exact refframes_bad4 d out tempo carry w h h1 h2 h3 h4
    by_cases h5 : carry < 0
    · exact refframes_bad5 d out tempo carry w h h1 h2 h3 h4 h5
    by_cases h6 : 509 < carry
    · exact refframes_bad6 d out tempo carry w h h1 h2 h3 h4 h5 h6
    · exact refframes_ok d out tempo carry w h (by omega) (by omega) (by omega) (by omega) (by omega) (by omega)
  · exact refframes_no d out tempo carry w h
end Go.Proofs.Ytjefhconahdbiaa
