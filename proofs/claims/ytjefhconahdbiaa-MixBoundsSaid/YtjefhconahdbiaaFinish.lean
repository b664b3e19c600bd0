/- ValidOptions, mix.Finish and the reference's Finish. -/
import Derived.Test.YtjefhconahdbiaaFinished
namespace Go.Proofs.Ytjefhconahdbiaa
open Go.RowKit

def optOK (rate interp sep amp bits : Int) : Bool := inr rate 1000 96000 && inr interp 0 4 && inr sep 0 256 && inr amp 0 256 && (bits == 8 || bits == 16)
set_option maxHeartbeats 4000000 in
set_option maxRecDepth 100000 in
theorem valid_any (rate interp sep amp bits : Int) (dith : Bool) (w : World) :
    Calls Try.prog 52 #[.agg (ocells rate interp sep amp bits dith).toArray] w fun e w' => e = .returned (.bool (optOK rate interp sep amp bits)) ∧ Below w.heap.size w w' := by
  unfold ocells
  cases h0 : inr rate 1000 96000 with
  | false =>
    have H0 := hid h0; clear h0
    go_enter Try.func52, Try.ntmps52
    go_wp2_with fail
    refine (mixin _ _ _ _).mono ?_
    rintro e w0 ⟨rfl, rfl⟩
    rw [H0.out]
    go_wp2
    go_ret
    exact ⟨ret_bool (by unfold optOK; rw [H0.out]; simp), Below.grow (Below.refl _ _) _⟩
  | true =>
    have H0 := hid h0; clear h0
    cases h1 : inr interp 0 4 with
    | false =>
      have H1 := hid h1; clear h1
      go_enter Try.func52, Try.ntmps52
      go_wp2_with fail
      refine (mixin _ _ _ _).mono ?_
      rintro e w0 ⟨rfl, rfl⟩
      rw [H0.out]
      go_wp2_with fail
      refine (mixin _ _ _ _).mono ?_
      rintro e w1 ⟨rfl, rfl⟩
      rw [H1.out]
      go_wp2
      go_ret
      exact ⟨ret_bool (by unfold optOK; rw [H0.out, H1.out]; simp), Below.grow (Below.refl _ _) _⟩
    | true =>
      have H1 := hid h1; clear h1
      cases h2 : inr sep 0 256 with
      | false =>
        have H2 := hid h2; clear h2
        go_enter Try.func52, Try.ntmps52
        go_wp2_with fail
        refine (mixin _ _ _ _).mono ?_
        rintro e w0 ⟨rfl, rfl⟩
        rw [H0.out]
        go_wp2_with fail
        refine (mixin _ _ _ _).mono ?_
        rintro e w1 ⟨rfl, rfl⟩
        rw [H1.out]
        go_wp2_with fail
        refine (mixin _ _ _ _).mono ?_
        rintro e w2 ⟨rfl, rfl⟩
        rw [H2.out]
        go_wp2
        go_ret
        exact ⟨ret_bool (by unfold optOK; rw [H0.out, H1.out, H2.out]; simp), Below.grow (Below.refl _ _) _⟩
      | true =>
        have H2 := hid h2; clear h2
        cases h3 : inr amp 0 256 with
        | false =>
          have H3 := hid h3; clear h3
          go_enter Try.func52, Try.ntmps52
          go_wp2_with fail
          refine (mixin _ _ _ _).mono ?_
          rintro e w0 ⟨rfl, rfl⟩
          rw [H0.out]
          go_wp2_with fail
          refine (mixin _ _ _ _).mono ?_
          rintro e w1 ⟨rfl, rfl⟩
          rw [H1.out]
          go_wp2_with fail
          refine (mixin _ _ _ _).mono ?_
          rintro e w2 ⟨rfl, rfl⟩
          rw [H2.out]
          go_wp2_with fail
          refine (mixin _ _ _ _).mono ?_
          rintro e w3 ⟨rfl, rfl⟩
          rw [H3.out]
          go_wp2
          go_ret
          exact ⟨ret_bool (by unfold optOK; rw [H0.out, H1.out, H2.out, H3.out]; simp), Below.grow (Below.refl _ _) _⟩
        | true =>
          have H3 := hid h3; clear h3
          cases h4 : (bits == 8) with
          | true =>
            go_enter Try.func52, Try.ntmps52
            go_wp2_with fail
            refine (mixin _ _ _ _).mono ?_
            rintro e w0 ⟨rfl, rfl⟩
            rw [H0.out]
            go_wp2_with fail
            refine (mixin _ _ _ _).mono ?_
            rintro e w1 ⟨rfl, rfl⟩
            rw [H1.out]
            go_wp2_with fail
            refine (mixin _ _ _ _).mono ?_
            rintro e w2 ⟨rfl, rfl⟩
            rw [H2.out]
            go_wp2_with fail
            refine (mixin _ _ _ _).mono ?_
            rintro e w3 ⟨rfl, rfl⟩
            rw [H3.out]
            go_wp2
            go_ret
            exact ⟨ret_bool (by unfold optOK; rw [H0.out, H1.out, H2.out, H3.out]; have := eq_of_beq h4; simp [this]), Below.grow (Below.refl _ _) _⟩
          | false =>
            cases h5 : (bits == 16) with
            | true =>
              go_enter Try.func52, Try.ntmps52
              go_wp2_with fail
              refine (mixin _ _ _ _).mono ?_
              rintro e w0 ⟨rfl, rfl⟩
              rw [H0.out]
              go_wp2_with fail
              refine (mixin _ _ _ _).mono ?_
              rintro e w1 ⟨rfl, rfl⟩
              rw [H1.out]
              go_wp2_with fail
              refine (mixin _ _ _ _).mono ?_
              rintro e w2 ⟨rfl, rfl⟩
              rw [H2.out]
              go_wp2_with fail
              refine (mixin _ _ _ _).mono ?_
              rintro e w3 ⟨rfl, rfl⟩
              rw [H3.out]
              go_wp2
              go_ret
              exact ⟨ret_bool (by unfold optOK; rw [H0.out, H1.out, H2.out, H3.out]; simp [h4, h5]), Below.grow (Below.refl _ _) _⟩
            | false =>
              go_enter Try.func52, Try.ntmps52
              go_wp2_with fail
              refine (mixin _ _ _ _).mono ?_
              rintro e w0 ⟨rfl, rfl⟩
              rw [H0.out]
              go_wp2_with fail
              refine (mixin _ _ _ _).mono ?_
              rintro e w1 ⟨rfl, rfl⟩
              rw [H1.out]
              go_wp2_with fail
              refine (mixin _ _ _ _).mono ?_
              rintro e w2 ⟨rfl, rfl⟩
              rw [H2.out]
              go_wp2_with fail
              refine (mixin _ _ _ _).mono ?_
              rintro e w3 ⟨rfl, rfl⟩
              rw [H3.out]
              go_wp2
              go_ret
              exact ⟨ret_bool (by unfold optOK; rw [H0.out, H1.out, H2.out, H3.out]; simp [h4, h5]), Below.grow (Below.refl _ _) _⟩
set_option maxHeartbeats 4000000 in
set_option maxRecDepth 100000 in
theorem refvalid_any (rate interp sep amp bits : Int) (dith : Bool) (w : World) :
    Calls Try.prog 55 #[.agg (ocells rate interp sep amp bits dith).toArray] w fun e w' => e = .returned (.bool (optOK rate interp sep amp bits)) ∧ Below w.heap.size w w' := by
  unfold ocells
  cases h0 : inr rate 1000 96000 with
  | false =>
    have H0 := hid h0; clear h0
    go_enter Try.func55, Try.ntmps55
    go_wp2_with fail
    refine (refin _ _ _ _).mono ?_
    rintro e w0 ⟨rfl, rfl⟩
    rw [H0.out]
    go_wp2
    go_ret
    exact ⟨ret_bool (by unfold optOK; rw [H0.out]; simp), Below.grow (Below.refl _ _) _⟩
  | true =>
    have H0 := hid h0; clear h0
    cases h1 : inr interp 0 4 with
    | false =>
      have H1 := hid h1; clear h1
      go_enter Try.func55, Try.ntmps55
      go_wp2_with fail
      refine (refin _ _ _ _).mono ?_
      rintro e w0 ⟨rfl, rfl⟩
      rw [H0.out]
      go_wp2_with fail
      refine (refin _ _ _ _).mono ?_
      rintro e w1 ⟨rfl, rfl⟩
      rw [H1.out]
      go_wp2
      go_ret
      exact ⟨ret_bool (by unfold optOK; rw [H0.out, H1.out]; simp), Below.grow (Below.refl _ _) _⟩
    | true =>
      have H1 := hid h1; clear h1
      cases h2 : inr sep 0 256 with
      | false =>
        have H2 := hid h2; clear h2
        go_enter Try.func55, Try.ntmps55
        go_wp2_with fail
        refine (refin _ _ _ _).mono ?_
        rintro e w0 ⟨rfl, rfl⟩
        rw [H0.out]
        go_wp2_with fail
        refine (refin _ _ _ _).mono ?_
        rintro e w1 ⟨rfl, rfl⟩
        rw [H1.out]
        go_wp2_with fail
        refine (refin _ _ _ _).mono ?_
        rintro e w2 ⟨rfl, rfl⟩
        rw [H2.out]
        go_wp2
        go_ret
        exact ⟨ret_bool (by unfold optOK; rw [H0.out, H1.out, H2.out]; simp), Below.grow (Below.refl _ _) _⟩
      | true =>
        have H2 := hid h2; clear h2
        cases h3 : inr amp 0 256 with
        | false =>
          have H3 := hid h3; clear h3
          go_enter Try.func55, Try.ntmps55
          go_wp2_with fail
          refine (refin _ _ _ _).mono ?_
          rintro e w0 ⟨rfl, rfl⟩
          rw [H0.out]
          go_wp2_with fail
          refine (refin _ _ _ _).mono ?_
          rintro e w1 ⟨rfl, rfl⟩
          rw [H1.out]
          go_wp2_with fail
          refine (refin _ _ _ _).mono ?_
          rintro e w2 ⟨rfl, rfl⟩
          rw [H2.out]
          go_wp2_with fail
          refine (refin _ _ _ _).mono ?_
          rintro e w3 ⟨rfl, rfl⟩
          rw [H3.out]
          go_wp2
          go_ret
          exact ⟨ret_bool (by unfold optOK; rw [H0.out, H1.out, H2.out, H3.out]; simp), Below.grow (Below.refl _ _) _⟩
        | true =>
          have H3 := hid h3; clear h3
          cases h4 : (bits == 8) with
          | true =>
            go_enter Try.func55, Try.ntmps55
            go_wp2_with fail
            refine (refin _ _ _ _).mono ?_
            rintro e w0 ⟨rfl, rfl⟩
            rw [H0.out]
            go_wp2_with fail
            refine (refin _ _ _ _).mono ?_
            rintro e w1 ⟨rfl, rfl⟩
            rw [H1.out]
            go_wp2_with fail
            refine (refin _ _ _ _).mono ?_
            rintro e w2 ⟨rfl, rfl⟩
            rw [H2.out]
            go_wp2_with fail
            refine (refin _ _ _ _).mono ?_
            rintro e w3 ⟨rfl, rfl⟩
            rw [H3.out]
            go_wp2
            go_ret
            exact ⟨ret_bool (by unfold optOK; rw [H0.out, H1.out, H2.out, H3.out]; have := eq_of_beq h4; simp [this]), Below.grow (Below.refl _ _) _⟩
          | false =>
            cases h5 : (bits == 16) with
            | true =>
              go_enter Try.func55, Try.ntmps55
              go_wp2_with fail
              refine (refin _ _ _ _).mono ?_
              rintro e w0 ⟨rfl, rfl⟩
              rw [H0.out]
              go_wp2_with fail
              refine (refin _ _ _ _).mono ?_
              rintro e w1 ⟨rfl, rfl⟩
              rw [H1.out]
              go_wp2_with fail
              refine (refin _ _ _ _).mono ?_
              rintro e w2 ⟨rfl, rfl⟩
              rw [H2.out]
              go_wp2_with fail
              refine (refin _ _ _ _).mono ?_
              rintro e w3 ⟨rfl, rfl⟩
              rw [H3.out]
              go_wp2
              go_ret
              exact ⟨ret_bool (by unfold optOK; rw [H0.out, H1.out, H2.out, H3.out]; simp [h4, h5]), Below.grow (Below.refl _ _) _⟩
            | false =>
              go_enter Try.func55, Try.ntmps55
              go_wp2_with fail
              refine (refin _ _ _ _).mono ?_
              rintro e w0 ⟨rfl, rfl⟩
              rw [H0.out]
              go_wp2_with fail
              refine (refin _ _ _ _).mono ?_
              rintro e w1 ⟨rfl, rfl⟩
              rw [H1.out]
              go_wp2_with fail
              refine (refin _ _ _ _).mono ?_
              rintro e w2 ⟨rfl, rfl⟩
              rw [H2.out]
              go_wp2_with fail
              refine (refin _ _ _ _).mono ?_
              rintro e w3 ⟨rfl, rfl⟩
              rw [H3.out]
              go_wp2
              go_ret
              exact ⟨ret_bool (by unfold optOK; rw [H0.out, H1.out, H2.out, H3.out]; simp [h4, h5]), Below.grow (Below.refl _ _) _⟩

def finR (rate interp sep amp bits : Int) (dith : Bool) (xs : List (Int × Int)) (s : Int) : List (Int × Int) × Int × Int :=
  if optOK rate interp sep amp bits = false then ([], 0, 1) else if (inr s 0 2147483647 && allOK xs) = false then ([], 0, 5)
  else ((finTo sep amp bits dith xs s xs.length).1, (finTo sep amp bits dith xs s xs.length).2, 0)
def Ended (rate interp sep amp bits : Int) (dith : Bool) (xs : List (Int × Int)) (s : Int) (w : World) (e : Ending) (w' : World) : Prop :=
  ∃ A c, e = .returned (.tuple #[.slice A (finR rate interp sep amp bits dith xs s).1.length c, .int .i64 (finR rate interp sep amp bits dith xs s).2.1, .int .i64 (finR rate interp sep amp bits dith xs s).2.2]) ∧
    FramesAt w' A (finR rate interp sep amp bits dith xs s).1 ∧ Below w.heap.size w w'
theorem ended_no1 {rate interp sep amp bits : Int} {dith : Bool} {xs : List (Int × Int)} {s : Int} {w w' : World} (h : optOK rate interp sep amp bits = false) (hb : Below w.heap.size w w') :
    Ended rate interp sep amp bits dith xs s w (.returned (.tuple #[.slice none 0 0, .int .i64 0, .int .i64 1])) w' := by
  unfold Ended finR; rw [if_pos h]
  exact ⟨_, _, rfl, fun i hi => by simp at hi, hb⟩
theorem ended_no5 {rate interp sep amp bits : Int} {dith : Bool} {xs : List (Int × Int)} {s : Int} {w w' : World} (h : optOK rate interp sep amp bits = true) (h2 : (inr s 0 2147483647 && allOK xs) = false) (hb : Below w.heap.size w w') :
    Ended rate interp sep amp bits dith xs s w (.returned (.tuple #[.slice none 0 0, .int .i64 0, .int .i64 5])) w' := by
  unfold Ended finR; rw [if_neg (by rw [h]; decide), if_pos h2]
  exact ⟨_, _, rfl, fun i hi => by simp at hi, hb⟩
theorem ended_yes {rate interp sep amp bits : Int} {dith : Bool} {xs : List (Int × Int)} {s : Int} {w w' : World} {A : Option Addr} {c : Nat} (h : optOK rate interp sep amp bits = true) (h2 : (inr s 0 2147483647 && allOK xs) = true)
    (hf : FramesAt w' A (finTo sep amp bits dith xs s xs.length).1) (hb : Below w.heap.size w w') :
    Ended rate interp sep amp bits dith xs s w (.returned (.tuple #[.slice A xs.length c, .int .i64 (finTo sep amp bits dith xs s xs.length).2, .int .i64 0])) w' := by
  unfold Ended finR; rw [if_neg (by rw [h]; decide), if_neg (by rw [h2]; decide)]
  exact ⟨A, c, by rw [finTo_len], hf, hb⟩
theorem optOK_of {rate interp sep amp bits : Int} (h : optOK rate interp sep amp bits = true) : (0 ≤ sep ∧ sep ≤ 256) ∧ 0 ≤ amp ∧ amp ≤ 256 := by
  unfold optOK at h
  rw [Bool.and_eq_true, Bool.and_eq_true, Bool.and_eq_true] at h
  exact ⟨(inr_iff _ _ _).1 h.1.1.2, (inr_iff _ _ _).1 h.1.2⟩
theorem allOK_all {xs : List (Int × Int)} (h : allOK xs = true) : xs.all fok = true := by
  unfold allOK at h; rw [Bool.and_eq_true] at h; exact h.2

set_option maxHeartbeats 4000000 in
set_option maxRecDepth 100000 in
theorem finish_any (A : Option Addr) (xs : List (Int × Int)) (c : Nat) (rate interp sep amp bits : Int) (dith : Bool) (s : Int) (w : World) (hx : FramesAt w A xs) (hn : xs.length ≤ 200000) :
    Calls Try.prog 28 #[.slice A xs.length c, .agg (ocells rate interp sep amp bits dith).toArray, .int .i64 s] w (Ended rate interp sep amp bits dith xs s w) := by
  have HX := hid hx; have HN := hid hn; clear hx hn
  have HO1 : Hid ((w.alloc (.cells (ocells rate interp sep amp bits dith).toArray 49)).rangeAt w.heap.size 0 (ocells rate interp sep amp bits dith)) := hid (by
    have := range_made w (ocells rate interp sep amp bits dith).toArray 49
    simpa using this)
  have HB1 := hid (Below.grow (Below.refl w.heap.size w) (.cells (ocells rate interp sep amp bits dith).toArray 49))
  have hs1' : w.heap.size < (w.alloc (.cells (ocells rate interp sep amp bits dith).toArray 49)).heap.size := by simp
  have c0 := HO1.out 0 _ rfl; have c1 := HO1.out 1 _ rfl; have c2 := HO1.out 2 _ rfl; have c3 := HO1.out 3 _ rfl; have c4 := HO1.out 4 _ rfl; have c5 := HO1.out 5 _ rfl
  simp only [Nat.zero_add] at c0 c1 c2 c3 c4 c5
  cases hok : optOK rate interp sep amp bits with
  | false =>
    have HOK := hid hok; clear hok
    go_enter Try.func28, Try.ntmps28
    go_wp2_with fail
    refine (valid_any rate interp sep amp bits dith _).mono ?_
    rintro e w1 ⟨rfl, hb⟩
    rw [HOK.out]
    have HB2 := hid (Below.step HB1.out hb); clear hb
    go_wp2
    refine bodyPost_ret (results_tmp3 rfl _ _ _) rfl ?_
    exact ended_no1 HOK.out HB2.out
  | true =>
    have HOK := hid hok; clear hok
    cases hsd : inr s 0 2147483647 with
    | false =>
      have HSD := hid hsd; clear hsd
      go_enter Try.func28, Try.ntmps28
      go_wp2_with fail
      refine (valid_any rate interp sep amp bits dith _).mono ?_
      rintro e w1 ⟨rfl, hb⟩
      rw [HOK.out]
      have HB2 := hid (Below.step HB1.out hb); clear hb
      go_wp2_with fail
      refine (mixin _ _ _ _).mono ?_
      rintro e w2 ⟨rfl, rfl⟩
      rw [HSD.out]
      go_wp2
      refine bodyPost_ret (results_tmp3 rfl _ _ _) rfl ?_
      exact ended_no5 HOK.out (by rw [HSD.out]; rfl) HB2.out
    | true =>
      have HSD := hid hsd; clear hsd
      cases hal : allOK xs with
      | false =>
        have HAL := hid hal; clear hal
        go_enter Try.func28, Try.ntmps28
        go_wp2_with fail
        refine (valid_any rate interp sep amp bits dith _).mono ?_
        rintro e w1 ⟨rfl, hb⟩
        rw [HOK.out]
        have HB2 := hid (Below.step HB1.out hb); clear hb
        go_wp2_with fail
        refine (mixin _ _ _ _).mono ?_
        rintro e w2 ⟨rfl, rfl⟩
        rw [HSD.out]
        go_wp2_with fail
        refine (framesOK A xs c _ (HX.out.below HB2.out) (by have := HN.out; omega)).mono ?_
        rintro e w3 ⟨rfl, hb⟩
        rw [HAL.out]
        have HB3 := hid (Below.step HB2.out hb); clear hb
        go_wp2
        refine bodyPost_ret (results_tmp3 rfl _ _ _) rfl ?_
        exact ended_no5 HOK.out (by rw [HSD.out, HAL.out]; rfl) HB3.out
      | true =>
        have HAL := hid hal; clear hal
        go_enter Try.func28, Try.ntmps28
        go_wp2_with fail
        refine (valid_any rate interp sep amp bits dith _).mono ?_
        rintro e w1 ⟨rfl, hb⟩
        rw [HOK.out]
        have HB2 := hid (Below.step HB1.out hb)
        have HO2 := hid (rangeAt_below HO1.out hb)
        have d0 := HO2.out 0 _ rfl; have d1 := HO2.out 1 _ rfl; have d2 := HO2.out 2 _ rfl; have d3 := HO2.out 3 _ rfl; have d4 := HO2.out 4 _ rfl; have d5 := HO2.out 5 _ rfl
        simp only [Nat.zero_add] at d0 d1 d2 d3 d4 d5
        clear hb c0 c1 c2 c3 c4 c5
        go_wp2_with fail
        refine (mixin _ _ _ _).mono ?_
        rintro e w2 ⟨rfl, rfl⟩
        rw [HSD.out]
        go_wp2_with fail
        refine (framesOK A xs c _ (HX.out.below HB2.out) (by have := HN.out; omega)).mono ?_
        rintro e w3 ⟨rfl, hb⟩
        rw [HAL.out]
        have HB3 := hid (Below.step HB2.out hb)
        have HO3 := hid (rangeAt_below HO2.out hb)
        have d0 := HO3.out 0 _ rfl; have d1 := HO3.out 1 _ rfl; have d2 := HO3.out 2 _ rfl; have d3 := HO3.out 3 _ rfl; have d4 := HO3.out 4 _ rfl; have d5 := HO3.out 5 _ rfl
        simp only [Nat.zero_add] at d0 d1 d2 d3 d4 d5
        clear hb
        obtain ⟨⟨q0, q1⟩, q2, q3⟩ := optOK_of HOK.out
        obtain ⟨q4, q5⟩ := (inr_iff _ _ _).1 HSD.out
        have HALL := hid (allOK_all HAL.out)
        go_wp2_with fail
        refine (blend_any A xs c rate interp sep amp bits dith s w.heap.size 0 _ (HX.out.below HB3.out) HO3.out HALL.out HN.out q0 q1 q2 q3 q4 q5).mono ?_
        rintro e w4 ⟨A', c', rfl, hfr, hb⟩
        have HB4 := hid (Below.step HB3.out hb); clear hb
        have HFR := hid hfr; clear hfr
        go_wp2
        refine bodyPost_ret (results_tmp3 rfl _ _ _) rfl ?_
        exact ended_yes HOK.out (by rw [HSD.out, HAL.out]; rfl) HFR.out HB4.out

set_option maxHeartbeats 4000000 in
set_option maxRecDepth 100000 in
theorem reffinish_any (A : Option Addr) (xs : List (Int × Int)) (c : Nat) (rate interp sep amp bits : Int) (dith : Bool) (s : Int) (w : World) (hx : FramesAt w A xs) (hn : xs.length ≤ 200000) :
    Calls Try.prog 29 #[.slice A xs.length c, .agg (ocells rate interp sep amp bits dith).toArray, .int .i64 s] w (Ended rate interp sep amp bits dith xs s w) := by
  have HX := hid hx; have HN := hid hn; clear hx hn
  have HO1 : Hid ((w.alloc (.cells (ocells rate interp sep amp bits dith).toArray 49)).rangeAt w.heap.size 0 (ocells rate interp sep amp bits dith)) := hid (by
    have := range_made w (ocells rate interp sep amp bits dith).toArray 49
    simpa using this)
  have HB1 := hid (Below.grow (Below.refl w.heap.size w) (.cells (ocells rate interp sep amp bits dith).toArray 49))
  have hs1' : w.heap.size < (w.alloc (.cells (ocells rate interp sep amp bits dith).toArray 49)).heap.size := by simp
  have c0 := HO1.out 0 _ rfl; have c1 := HO1.out 1 _ rfl; have c2 := HO1.out 2 _ rfl; have c3 := HO1.out 3 _ rfl; have c4 := HO1.out 4 _ rfl; have c5 := HO1.out 5 _ rfl
  simp only [Nat.zero_add] at c0 c1 c2 c3 c4 c5
  cases hok : optOK rate interp sep amp bits with
  | false =>
    have HOK := hid hok; clear hok
    go_enter Try.func29, Try.ntmps29
    go_wp2_with fail
    refine (refvalid_any rate interp sep amp bits dith _).mono ?_
    rintro e w1 ⟨rfl, hb⟩
    rw [HOK.out]
    have HB2 := hid (Below.step HB1.out hb); clear hb
    go_wp2
    refine bodyPost_ret (results_tmp3 rfl _ _ _) rfl ?_
    exact ended_no1 HOK.out HB2.out
  | true =>
    have HOK := hid hok; clear hok
    cases hsd : inr s 0 2147483647 with
    | false =>
      have HSD := hid hsd; clear hsd
      go_enter Try.func29, Try.ntmps29
      go_wp2_with fail
      refine (refvalid_any rate interp sep amp bits dith _).mono ?_
      rintro e w1 ⟨rfl, hb⟩
      rw [HOK.out]
      have HB2 := hid (Below.step HB1.out hb); clear hb
      go_wp2_with fail
      refine (refin _ _ _ _).mono ?_
      rintro e w2 ⟨rfl, rfl⟩
      rw [HSD.out]
      go_wp2
      refine bodyPost_ret (results_tmp3 rfl _ _ _) rfl ?_
      exact ended_no5 HOK.out (by rw [HSD.out]; rfl) HB2.out
    | true =>
      have HSD := hid hsd; clear hsd
      cases hal : allOK xs with
      | false =>
        have HAL := hid hal; clear hal
        go_enter Try.func29, Try.ntmps29
        go_wp2_with fail
        refine (refvalid_any rate interp sep amp bits dith _).mono ?_
        rintro e w1 ⟨rfl, hb⟩
        rw [HOK.out]
        have HB2 := hid (Below.step HB1.out hb); clear hb
        go_wp2_with fail
        refine (refin _ _ _ _).mono ?_
        rintro e w2 ⟨rfl, rfl⟩
        rw [HSD.out]
        go_wp2_with fail
        refine (ref_tame A xs c _ (HX.out.below HB2.out) (by have := HN.out; omega)).mono ?_
        rintro e w3 ⟨rfl, hb⟩
        rw [HAL.out]
        have HB3 := hid (Below.step HB2.out hb); clear hb
        go_wp2
        refine bodyPost_ret (results_tmp3 rfl _ _ _) rfl ?_
        exact ended_no5 HOK.out (by rw [HSD.out, HAL.out]; rfl) HB3.out
      | true =>
        have HAL := hid hal; clear hal
        go_enter Try.func29, Try.ntmps29
        go_wp2_with fail
        refine (refvalid_any rate interp sep amp bits dith _).mono ?_
        rintro e w1 ⟨rfl, hb⟩
        rw [HOK.out]
        have HB2 := hid (Below.step HB1.out hb)
        have HO2 := hid (rangeAt_below HO1.out hb)
        have d0 := HO2.out 0 _ rfl; have d1 := HO2.out 1 _ rfl; have d2 := HO2.out 2 _ rfl; have d3 := HO2.out 3 _ rfl; have d4 := HO2.out 4 _ rfl; have d5 := HO2.out 5 _ rfl
        simp only [Nat.zero_add] at d0 d1 d2 d3 d4 d5
        clear hb c0 c1 c2 c3 c4 c5
        go_wp2_with fail
        refine (refin _ _ _ _).mono ?_
        rintro e w2 ⟨rfl, rfl⟩
        rw [HSD.out]
        go_wp2_with fail
        refine (ref_tame A xs c _ (HX.out.below HB2.out) (by have := HN.out; omega)).mono ?_
        rintro e w3 ⟨rfl, hb⟩
        rw [HAL.out]
        have HB3 := hid (Below.step HB2.out hb)
        have HO3 := hid (rangeAt_below HO2.out hb)
        have d0 := HO3.out 0 _ rfl; have d1 := HO3.out 1 _ rfl; have d2 := HO3.out 2 _ rfl; have d3 := HO3.out 3 _ rfl; have d4 := HO3.out 4 _ rfl; have d5 := HO3.out 5 _ rfl
        simp only [Nat.zero_add] at d0 d1 d2 d3 d4 d5
        clear hb
        obtain ⟨⟨q0, q1⟩, q2, q3⟩ := optOK_of HOK.out
        obtain ⟨q4, q5⟩ := (inr_iff _ _ _).1 HSD.out
        have HALL := hid (allOK_all HAL.out)
        go_wp2_with fail
        refine (finished_any A xs c rate interp sep amp bits dith s _ (HX.out.below HB3.out) HALL.out HN.out q0 q1 q2 q3 q4 q5).mono ?_
        rintro e w4 ⟨A', c', rfl, hfr, hb⟩
        have HB4 := hid (Below.step HB3.out hb); clear hb
        have HFR := hid hfr; clear hfr
        go_wp2
        refine bodyPost_ret (results_tmp3 rfl _ _ _) rfl ?_
        exact ended_yes HOK.out (by rw [HSD.out, HAL.out]; rfl) HFR.out HB4.out
end Go.Proofs.Ytjefhconahdbiaa
