/- OrderFrames and OrderCarried return true for all numbers. -/
import Derived.Test.YtjefhconahdbiaaFrames
import Derived.RegionTactic
import Derived.ProofKit
import Derived.OpenShut
namespace Go.Proofs.Ytjefhconahdbiaa
open Go.RowKit

/-! OrderFrames -/
theorem frames_self {a b : Int} (h : a = b) : (a == b) = true := beq_iff_eq.2 h
set_option maxRecDepth 100000 in
set_option maxHeartbeats 1000000 in
theorem lawFrames (d out t c : Int) (w : World) :
    Calls Try.prog 4 #[.int .i64 d, .int .i64 out, .agg #[.int .i64 t, .int .i64 c]] w fun e w' => e = .returned (.bool true) ∧ Below w.heap.size w w' := by
  go_enter Try.func4, Try.ntmps4
  go_wp2_with fail
  refine (frames_any d out t c _).mono ?_
  rintro e w1 ⟨rfl, hb1⟩
  have hc0 : w1.cell? ⟨w.heap.size, 0, none⟩ = some (.int .i64 t) := (hb1.cell (p := ⟨w.heap.size, 0, none⟩) (by simp)).trans (by rw [World.cell?_alloc_at _ _ _ _ rfl]; rfl)
  have hc1 : w1.cell? ⟨w.heap.size, 1, none⟩ = some (.int .i64 c) := (hb1.cell (p := ⟨w.heap.size, 1, none⟩) (by simp)).trans (by rw [World.cell?_alloc_at _ _ _ _ rfl]; rfl)
  have HB1 := hid (Below.step (Below.grow (Below.refl w.heap.size w) _) hb1); clear hb1
  go_wp2_with fail
  refine (refframes_any d out t c _).mono ?_
  rintro e w2 ⟨rfl, hb2⟩
  have HB2 := hid (Below.step HB1.out hb2); clear hb2 hc0 hc1
  generalize frameS d out t c = f
  obtain ⟨f1, f2, f3⟩ := f
  go_wp2
  go_ret
  exact ⟨ret_bool (by simp), HB2.out⟩

/-! OrderCarried -/
/-- What the sum and the carry are after i ticks. -/
def CInv (d out t : Int) (i : Nat) (S C : Int) : Prop :=
  (if carries d then S * (2 * t) + C = 5 * out * i ∧ 0 ≤ C ∧ C < 2 * t else S = i * (5 * out / (2 * t)) ∧ C = 0) ∧ 0 ≤ S ∧ S ≤ 8000 * i
theorem cinv_zero (d out t : Int) (ht : 32 ≤ t) : CInv d out t 0 0 0 := by
  unfold CInv
  refine ⟨?_, by omega, by omega⟩
  split <;> simp; omega
theorem cinv_carry {d out t : Int} {i : Nat} {S C : Int} (h : CInv d out t i S C) (ht : 32 ≤ t) (ht2 : t ≤ 255) : 0 ≤ C ∧ C ≤ 509 := by
  unfold CInv at h
  obtain ⟨h, _⟩ := h
  split at h <;> omega
theorem cinv_step {d out t : Int} {i : Nat} {S C : Int} (hd : 1 ≤ d ∧ d ≤ 6) (h : CInv d out t i S C) (g1 : 1000 ≤ out) (g2 : out ≤ 96000) (g3 : 32 ≤ t) (g4 : t ≤ 255) :
    ∃ n r, frameS d out t C = (n, r, 0) ∧ 0 ≤ n ∧ n ≤ 8000 ∧ CInv d out t (i + 1) (S + n) r := by
  have hc := cinv_carry h g3 g4
  have hb : ¬ badRange out t C := by unfold badRange; omega
  have hq0 : 0 ≤ 5 * out / (2 * t) := Int.ediv_nonneg (by omega) (by omega)
  have hq1 : 5 * out / (2 * t) ≤ 7500 := by
    apply Int.ediv_le_of_le_mul (by omega)
    omega
  unfold CInv at h
  obtain ⟨h, hs0, hs1⟩ := h
  cases hcar : carries d with
  | true =>
    rw [hcar] at h
    simp only [if_true] at h
    obtain ⟨h1, h2, h3⟩ := h
    have hp : 0 < 2 * t := by omega
    have e := Int.mul_ediv_add_emod (5 * out + C) (2 * t)
    have r0 := Int.emod_nonneg (5 * out + C) (show 2 * t ≠ 0 by omega)
    have r1 := Int.emod_lt_of_pos (5 * out + C) hp
    have n0 : 0 ≤ (5 * out + C) / (2 * t) := Int.ediv_nonneg (by omega) (by omega)
    have n1 : (5 * out + C) / (2 * t) ≤ 7508 := by
      apply Int.ediv_le_of_le_mul (by omega)
      omega
    refine ⟨_, _, frame_carry hd hb hcar, n0, by omega, ?_⟩
    unfold CInv
    rw [hcar]
    simp only [if_true]
    refine ⟨⟨?_, r0, r1⟩, by omega, by push_cast; omega⟩
    generalize (5 * out + C) / (2 * t) = n at *
    generalize (5 * out + C) % (2 * t) = r at *
    have e1 : (S + n) * (2 * t) + r = S * (2 * t) + (2 * t * n + r) := by rw [Int.add_mul, Int.mul_comm n (2 * t), Int.add_assoc]
    have e2 : 5 * out * ((i + 1 : Nat) : Int) = 5 * out * (i : Int) + 5 * out := by push_cast; rw [Int.mul_add, Int.mul_one]
    rw [e1, e, e2, ← h1]
    omega
  | false =>
    rw [hcar] at h
    simp only [Bool.false_eq_true, if_false] at h
    obtain ⟨h1, h2⟩ := h
    refine ⟨_, _, frame_plain hd hb hcar, hq0, by omega, ?_⟩
    unfold CInv
    rw [hcar]
    simp only [Bool.false_eq_true, if_false]
    refine ⟨⟨?_, by simp⟩, by omega, by push_cast; omega⟩
    rw [h1]; push_cast; rw [Int.add_mul, Int.one_mul]
theorem cinv_end_carry {d out t : Int} {i : Nat} {S C : Int} (h : CInv d out t i S C) (hc : carries d = true) (ht : 32 ≤ t) : S = 5 * out * i / (2 * t) := by
  unfold CInv at h
  rw [hc] at h
  simp only [if_true] at h
  obtain ⟨⟨h1, h2, h3⟩, _⟩ := h
  rw [← h1, Int.add_comm, Int.add_mul_ediv_right _ _ (by omega), Int.ediv_eq_zero_of_lt h2 h3, Int.zero_add]
theorem cinv_end_plain {d out t : Int} {i : Nat} {S C : Int} (h : CInv d out t i S C) (hc : carries d = false) : S = i * (5 * out / (2 * t)) ∧ C = 0 := by
  unfold CInv at h
  rw [hc] at h
  simpa using h.1
theorem cell_q {w : World} {g : Nat} {d : Int} (h : w.heap[g]? = some (.cells (qz d) 32 (0, 0))) : w.cell? ⟨g, 23, none⟩ = some (.bool (carries d)) := by
  rw [cell_of_row _ _ _ _ _ _ h, qz_carry]
theorem prod_le {a : Int} {k : Nat} (h0 : 0 ≤ a) (h1 : a ≤ 480000) (hk : k ≤ 2000) : 0 ≤ a * (k : Int) ∧ a * (k : Int) ≤ 960000000 := by
  refine ⟨Int.mul_nonneg h0 (by omega), ?_⟩
  have := Int.mul_le_mul h1 (show (k : Int) ≤ 2000 by omega) (by omega) (by omega)
  omega
set_option maxRecDepth 100000 in
set_option maxHeartbeats 2000000 in
theorem carried_walk (out t : Int) (k : Nat) (w : World) (g1 : 1000 ≤ out) (g2 : out ≤ 96000) (g3 : 32 ≤ t) (g4 : t ≤ 255) (g5 : k ≤ 2000) :
    Calls Try.prog 5 #[.int .i64 out, .int .i64 t, .int .i64 k] w fun e w' => e = .returned (.bool true) ∧ Below w.heap.size w w' := by
  have g6 : (0 : Int) ≤ (k : Int) := by omega
  have g7 : (k : Int) ≤ 2000 := by omega
  go_enter Try.func5, Try.ntmps5
  go_wp2
  go_loopw [7, 8, 9, 10, 11, 12, 13, 14, 15] (fun v _ _ _ _ _ _ _ _ wr => ∃ d : Int, 1 ≤ d ∧ d ≤ 7 ∧ v = .int .i64 d ∧ Hid (Below w.heap.size w wr)) (fun v _ _ _ _ _ _ _ _ _ => 7 - (intOf v).toNat)
  case atStart => exact ⟨1, by omega, by omega, rfl, Below.refl _ _⟩
  case round =>
    obtain ⟨d, hd1, hd7, rfl, HB⟩ := hrel
    by_cases hlt : d ≤ 6
    · have HE : Hid (qe d = 0) := hid (if_pos ⟨hd1, hlt⟩)
      obtain ⟨wo, rfl⟩ : ∃ wo : World, wo = wr := ⟨_, rfl⟩
      go_wp2_with fail
      refine (refquirks_any d _).mono ?_
      rintro e w1 ⟨rfl, hb1⟩
      rw [HE.out]
      have HB1 := hid (Below.grow (Below.step HB.out hb1) (.cells (qz d) 32)); clear hb1
      have HG := hid (heap_alloc_new w1 (.cells (qz d) 32))
      have HZ : Hid (w1.heap.size < (w1.alloc (.cells (qz d) 32)).heap.size) := hid (by simp)
      go_wp2_with (refine wpList_store_new rfl 32 _ _ rfl _ (qz d) rfl rfl (infoq d) (by rw [qz_size]; rfl) (qz_one d) ?_)
      generalize w1.alloc (.cells (qz d) 32) = w2 at *
      go_loopw [10, 11, 12, 13, 14, 15] (fun s c v _ _ _ wi => ∃ (i : Nat) (S C : Int), i ≤ k ∧ v = .int .i64 i ∧ s = .int .i64 S ∧ c = .int .i64 C ∧ Hid (CInv d out t i S C) ∧ Hid (Below w2.heap.size w2 wi)) (fun _ _ v _ _ _ _ => k - (intOf v).toNat)
      case atStart => exact ⟨0, 0, 0, Nat.zero_le _, rfl, rfl, rfl, cinv_zero d out t g3, Below.refl _ _⟩
      case round =>
        obtain ⟨i, S, C, hik, rfl, rfl, rfl, HI, HBi⟩ := hrel
        by_cases hil : i < k
        · obtain ⟨n, r, hf, hn0, hn1, hI⟩ := cinv_step ⟨hd1, hlt⟩ HI.out g1 g2 g3 g4
          have HF := hid hf; have HI1 := hid hI; clear hf hI
          have hS := HI.out.2
          have hS0 := hS.1
          have hS1 : S ≤ 16000000 := by omega
          clear hS
          go_wp2_with fail
          refine (frames_any d out t C _).mono ?_
          rintro e w3 ⟨rfl, hb3⟩
          rw [HF.out]
          have HB3 := hid (Below.step HBi.out hb3); clear hb3
          go_wp2
          go_roundw
          case rel => exact ⟨i + 1, S + n, r, by omega, by go_num, rfl, rfl, HI1.out, HB3.out⟩
          case measure => simp [intOf]; omega
        · obtain rfl : i = k := by omega
          have hq := cell_q (g := w1.heap.size) (d := d) ((HBi.out.block _ HZ.out).trans HG.out)
          obtain ⟨hp0, hp1⟩ := prod_le (a := 5 * out) (k := i) (by omega) (by omega) g5
          have hS0 := HI.out.2.1
          have hS1 : S ≤ 16000000 := by have := HI.out.2.2; omega
          have HBe := hid (Below.step HB1.out HBi.out)
          cases hcar : carries d with
          | true =>
            rw [hcar] at hq
            have hS := cinv_end_carry HI.out hcar g3
            have hne : (S != 5 * out * (i : Int) / (2 * t)) = false := by rw [← hS]; simp
            clear hS hcar
            go_wp2
            go_roundw
            case rel => exact ⟨d + 1, by omega, by omega, rfl, HBe.out⟩
            case measure => simp [intOf]; omega
          | false =>
            rw [hcar] at hq
            obtain ⟨hS, hC⟩ := cinv_end_plain HI.out hcar
            subst hC
            have hz0 : 0 ≤ 5 * out / (2 * t) := Int.ediv_nonneg (by omega) (by omega)
            have hz1 : 5 * out / (2 * t) ≤ 480000 := Int.le_trans (Int.ediv_le_self _ (by omega)) (by omega)
            obtain ⟨hr0, hr1⟩ := prod_le (a := 5 * out / (2 * t)) (k := i) hz0 hz1 g5
            rw [Int.mul_comm] at hr0 hr1
            have hne : (S != (i : Int) * (5 * out / (2 * t))) = false := by rw [← hS]; simp
            clear hS hcar
            go_wp2
            go_roundw
            case rel => exact ⟨d + 1, by omega, by omega, rfl, HBe.out⟩
            case measure => simp [intOf]; omega
    · obtain rfl : d = 7 := by omega
      go_wp2
      go_ret
      exact ⟨rfl, HB.out⟩
set_option maxHeartbeats 1000000 in
theorem carried_bad1 (out t k : Int) (w : World) (h0 : out < 1000) :
    Calls Try.prog 5 #[.int .i64 out, .int .i64 t, .int .i64 k] w fun e w' => e = .returned (.bool true) ∧ Below w.heap.size w w' := by
  go_enter Try.func5, Try.ntmps5
  go_wp2
  go_ret
  exact ⟨rfl, Below.refl _ _⟩
set_option maxHeartbeats 1000000 in
theorem carried_bad2 (out t k : Int) (w : World) (h0 : ¬ out < 1000) (h1 : 96000 < out) :
    Calls Try.prog 5 #[.int .i64 out, .int .i64 t, .int .i64 k] w fun e w' => e = .returned (.bool true) ∧ Below w.heap.size w w' := by
  go_enter Try.func5, Try.ntmps5
  go_wp2
  go_ret
  exact ⟨rfl, Below.refl _ _⟩
set_option maxHeartbeats 1000000 in
theorem carried_bad3 (out t k : Int) (w : World) (h0 : ¬ out < 1000) (h1 : ¬ 96000 < out) (h2 : t < 32) :
    Calls Try.prog 5 #[.int .i64 out, .int .i64 t, .int .i64 k] w fun e w' => e = .returned (.bool true) ∧ Below w.heap.size w w' := by
  go_enter Try.func5, Try.ntmps5
  go_wp2
  go_ret
  exact ⟨rfl, Below.refl _ _⟩
set_option maxHeartbeats 1000000 in
theorem carried_bad4 (out t k : Int) (w : World) (h0 : ¬ out < 1000) (h1 : ¬ 96000 < out) (h2 : ¬ t < 32) (h3 : 255 < t) :
    Calls Try.prog 5 #[.int .i64 out, .int .i64 t, .int .i64 k] w fun e w' => e = .returned (.bool true) ∧ Below w.heap.size w w' := by
  go_enter Try.func5, Try.ntmps5
  go_wp2
  go_ret
  exact ⟨rfl, Below.refl _ _⟩
set_option maxHeartbeats 1000000 in
theorem carried_bad5 (out t k : Int) (w : World) (h0 : ¬ out < 1000) (h1 : ¬ 96000 < out) (h2 : ¬ t < 32) (h3 : ¬ 255 < t) (h4 : k < 0) :
    Calls Try.prog 5 #[.int .i64 out, .int .i64 t, .int .i64 k] w fun e w' => e = .returned (.bool true) ∧ Below w.heap.size w w' := by
  go_enter Try.func5, Try.ntmps5
  go_wp2
  go_ret
  exact ⟨rfl, Below.refl _ _⟩
set_option maxHeartbeats 1000000 in
theorem carried_bad6 (out t k : Int) (w : World) (h0 : ¬ out < 1000) (h1 : ¬ 96000 < out) (h2 : ¬ t < 32) (h3 : ¬ 255 < t) (h4 : ¬ k < 0) (h5 : 2000 < k) :
    Calls Try.prog 5 #[.int .i64 out, .int .i64 t, .int .i64 k] w fun e w' => e = .returned (.bool true) ∧ Below w.heap.size w w' := by
  go_enter Try.func5, Try.ntmps5
  go_wp2
  go_ret
  exact ⟨rfl, Below.refl _ _⟩
theorem carried_any (out t k : Int) (w : World) :
    Calls Try.prog 5 #[.int .i64 out, .int .i64 t, .int .i64 k] w fun e w' => e = .returned (.bool true) ∧ Below w.heap.size w w' := by
  by_cases h1 : out < 1000
  · exact carried_bad1 out t k w h1
  by_cases h2 : 96000 < out
  · exact carried_bad2 out t k w h1 h2
  by_cases h3 : t < 32
  · exact carried_bad3 out t k w h1 h2 h3
  by_cases h4 : 255 < t
  · exact carried_bad4 out t k w h1 h2 h3 h4
  by_cases h5 : k < 0
  · exact carried_bad5 out t k w h1 h2 h3 h4 h5
  by_cases h6 : 2000 < k
  · exact carried_bad6 out t k w h1 h2 h3 h4 h5 h6
  · obtain ⟨n, rfl⟩ := Int.eq_ofNat_of_zero_le (show 0 ≤ k by omega)
    exact carried_walk out t n w (by omega) (by omega) (by omega) (by omega) (by omega)

open Go.ChangeShapes Go.WideShapes Go.ChangeAt in
set_option maxRecDepth 100000 in
theorem OrderCarried_opened {H : Type} {enc : TypeId × Value → H} (W : World) (base : Nat) (v0 v1 v2 : Value) {d0 d1 d2 : DataW H} {p0 p1 p2 : List MemPlace}
    (o0 : Value.okWide Try.prog W .any base 3 v0) (o1 : Value.okWide Try.prog W .any base 3 v1) (o2 : Value.okWide Try.prog W .any base 3 v2)
    (h0 : DataW.Trod enc Try.prog W 0 (fun _ => true) true 3 v0 d0 p0) (h1 : DataW.Trod enc Try.prog W 0 (fun _ => true) true 3 v1 d1 p1) (h2 : DataW.Trod enc Try.prog W 0 (fun _ => true) true 3 v2 d2 p2) :
    Calls Try.prog 5 #[v0, v1, v2] W fun e w' => e = .returned (.bool true) ∧ Below W.heap.size W w' := by
  obtain ⟨a, rfl, rfl, rfl, _⟩ := open_int Try.underlying3 o0 h0
  obtain ⟨b, rfl, rfl, rfl, _⟩ := open_int Try.underlying3 o1 h1
  obtain ⟨c, rfl, rfl, rfl, _⟩ := open_int Try.underlying3 o2 h2
  exact carried_any a b c W
theorem cells26 : Try.prog.cellsOf 26 = 2 := by kernel_rfl
open Go.ChangeShapes Go.WideShapes Go.ChangeAt in
set_option maxRecDepth 100000 in
theorem OrderFrames_opened {H : Type} {enc : TypeId × Value → H} (W : World) (base : Nat) (v0 v1 v2 : Value) {d0 d1 d2 : DataW H} {p0 p1 p2 : List MemPlace}
    (o0 : Value.okWide Try.prog W .any base 3 v0) (o1 : Value.okWide Try.prog W .any base 3 v1) (o2 : Value.okWide Try.prog W .any base 26 v2)
    (h0 : DataW.Trod enc Try.prog W 0 (fun _ => true) true 3 v0 d0 p0) (h1 : DataW.Trod enc Try.prog W 0 (fun _ => true) true 3 v1 d1 p1) (h2 : DataW.Trod enc Try.prog W 0 (fun _ => true) true 26 v2 d2 p2) :
    Calls Try.prog 4 #[v0, v1, v2] W fun e w' => e = .returned (.bool true) ∧ Below W.heap.size W w' := by
  obtain ⟨a, rfl, rfl, rfl, _⟩ := open_int Try.underlying3 o0 h0
  obtain ⟨b, rfl, rfl, rfl, _⟩ := open_int Try.underlying3 o1 h1
  obtain ⟨cs, rfl, hcs⟩ := okWide_array Try.underlying26 o2
  rw [cells26] at hcs
  obtain ⟨fuel, hf⟩ := h2
  obtain ⟨x, e0, _⟩ := elem_int Try.underlying26 hf 0 (by omega) Try.underlying3 cells3
  obtain ⟨y, e1, _⟩ := elem_int Try.underlying26 hf 1 (by omega) Try.underlying3 cells3
  obtain ⟨l⟩ := cs
  match l, hcs with
  | [c0, c1], _ =>
    simp [Value.cells] at e0 e1
    subst e0; subst e1
    exact lawFrames a b x y W
end Go.Proofs.Ytjefhconahdbiaa
