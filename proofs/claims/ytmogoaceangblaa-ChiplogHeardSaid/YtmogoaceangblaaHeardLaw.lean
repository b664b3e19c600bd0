/- ChiplogHeard: a log and what its packed bytes are unpacked to sound the same on the chip. -/
import Derived.Test.YtmogoaceangblaaChip7
import Derived.Test.YtmogoaceangblaaSmall
import Derived.Test.YtmogoaceangblaaSameLog
namespace Go.Proofs.Ytmogoaceangblaa
open Go.RowKit

theorem ints_equal_long (A B : Option Addr) (z : List Int) (c d : Nat) (w : World) (hA : IntsAt w A z) (hB : IntsAt w B z) (hz : z.length ≤ 24000) :
    Calls Try.prog 9 #[.slice A z.length c, .slice B z.length d] w fun e w' => e = .returned (.bool true) ∧ Below w.heap.size w w' := by
  by_cases h0 : z.length = 0
  · rw [h0]
    exact (Try.slices_Equal_int_empty A B c 0 d w (by omega)).mono fun e w' ⟨h1, h2⟩ => ⟨by simpa using h1, by rw [h2]; exact Below.refl _ _⟩
  · obtain ⟨b1, o1, rfl, h1⟩ := hA (by omega)
    obtain ⟨b2, o2, rfl, h2⟩ := hB (by omega)
    refine (Try.slices_Equal_int b1 o1 z.length c b2 o2 z.length d z z w (Nat.le_refl _) (Nat.le_refl _) (by omega) (by omega) (ints_cells h1) (ints_cells h2)).mono ?_
    rintro e w' ⟨rfl, q, rfl⟩
    exact ⟨by simp, below_drewN (Below.refl _ _) _⟩
/-- Unpack of what Pack gives. -/
def Backed (xs : List (List Int)) (w : World) (e : Ending) (w' : World) : Prop :=
  ∃ B c, e = .returned (.tuple #[.slice B xs.length c, .int .i64 ((packed xs).length : Nat), .int .i64 0]) ∧ LogAt w' B xs ∧ Below w.heap.size w w'
theorem unpack_packed (w : World) (A : Option Addr) (cc : Nat) (xs : List (List Int)) (L : List Int) (hL : L = packed xs) (hok : okLog xs = true) (hA : BytesAt w A L) :
    Calls Try.prog 7 #[.slice A L.length cc] w (Backed xs w) := by
  subst hL
  have hl := okLog_both hok
  have hpl := packed_length xs xs.length 0 (by omega)
  have hpos : 1 ≤ (packed xs).length := hpl.1
  have hle : (packed xs).length ≤ 17 * (xs.length - 0) + 1 := hpl.2
  obtain ⟨cs, h1, h2, h3⟩ := readAll_packed xs [] hl.1 hl.2 (by rw [List.append_nil]; omega)
  rw [List.append_nil] at h1
  refine (unpack_any w A cc (packed xs) hA (fun p o e => ?_) (packed_range (okLog_all hok))).mono ?_
  · obtain ⟨b, o', e', hc⟩ := hA (by omega)
    rw [e] at e'
    cases e'
    exact World.block_lt_of_cell? w _ (hc 0 (by omega))
  · intro e w' h
    rw [h1] at h
    exact h
set_option maxHeartbeats 4000000 in
set_option maxRecDepth 100000 in
theorem heard_law (A : Option Addr) (xs : List (List Int)) (c : Nat) (n : Int) (w : World) (hx : LogAt w A xs) :
    Calls Try.prog 3 #[.slice A xs.length c, .int .i64 n] w fun e w' => e = .returned (.bool true) ∧ Below w.heap.size w w' := by
  have HX := hid hx; clear hx
  cases ht : tameLog xs with
  | false =>
    have HT := hid ht; clear ht
    go_enter Try.func3, Try.ntmps3
    go_wp2_with fail
    refine (tame_any A xs c _ HX.out).mono ?_
    rintro e w1 ⟨rfl, hb⟩
    rw [HT.out]
    have HB1 := hid hb; clear hb
    go_wp2
    go_ret
    exact ⟨rfl, HB1.out⟩
  | true =>
    cases hok : okLog xs with
    | false =>
      have HT := hid ht; clear ht
      have HK := hid hok; clear hok
      go_enter Try.func3, Try.ntmps3
      go_wp2_with fail
      refine (tame_any A xs c _ HX.out).mono ?_
      rintro e w1 ⟨rfl, hb⟩
      rw [HT.out]
      have HB1 := hid hb; clear hb
      go_wp2_with fail
      refine (refright_any A xs c _ (HX.out.below HB1.out)).mono ?_
      rintro e w2 ⟨rfl, hb⟩
      rw [HK.out]
      have HB2 := hid (Below.step HB1.out hb); clear hb
      go_wp2
      go_ret
      exact ⟨rfl, HB2.out⟩
    | true =>
      by_cases hn : 0 ≤ n ∧ n ≤ 40
      · obtain ⟨m, rfl⟩ : ∃ m : Nat, n = (m : Int) := ⟨n.toNat, by omega⟩
        have hm : m ≤ 40 := by omega
        have h6 : xs.length ≤ 600 := by unfold tameLog at ht; simp at ht; omega
        have hpl := packed_length xs xs.length 0 (by omega)
        obtain ⟨L, hL⟩ : ∃ L, L = packed xs := ⟨_, rfl⟩
        have hL1 : 1 ≤ L.length := by rw [hL]; exact hpl.1
        obtain ⟨f, hf⟩ := shF_ex
        obtain ⟨g, hg⟩ := foF_ex
        have hpt := playT_len f g xs m xs.length
        have HF := hid hf; have HG := hid hg
        have HT := hid ht; clear ht
        have HK := hid hok; clear hok
        have HL := hid hL; clear hpl
        have HM := hid hm; have H6 := hid h6
        obtain ⟨O, hO⟩ : ∃ O, O = (playT f g xs m xs.length).2 := ⟨_, rfl⟩
        rw [← hO] at hpt
        have HO := hid hO
        have HOL : Hid (O.length ≤ 24000) := hid (by rw [hpt]; exact Nat.le_trans (Nat.mul_le_mul hm h6) (by omega))
        have hd1 : decide ((m : Int) < 0) = false := decide_eq_false (by omega)
        have hd2 : decide ((40 : Int) < (m : Int)) = false := decide_eq_false (by omega)
        have hd3 : decide ((0 : Int) < (L.length : Int)) = true := decide_eq_true (by omega)
        have hw1 : IntKind.i64.wrap ((m : Int) * (xs.length : Int)) = (O.length : Int) := by
          rw [hpt]
          have : m * xs.length ≤ 24000 := Nat.le_trans (Nat.mul_le_mul hm h6) (by omega)
          rw [IntKind.wrap_i64, Int.natCast_mul]
          have h2 : (m : Int) * (xs.length : Int) = ((m * xs.length : Nat) : Int) := by simp
          omega
        have HW1 := hid hw1
        have hw2 : (m : Int) * (xs.length : Int) = (O.length : Int) := by rw [hpt]; simp
        have hw3 : wrap64 ((m : Int) * (xs.length : Int)) = (O.length : Int) := by rw [hw2]; unfold wrap64; have := HOL.out; omega
        have hw4 : wrap64 (O.length : Int) = (O.length : Int) := by unfold wrap64; have := HOL.out; omega
        have hd4 : decide (0 < L.length) = true := decide_eq_true (by omega)
        have hll : ((O.length : Int) == (O.length : Int)) = true := by simp
        clear hf hg hL hm h6 hpt hO hn hw1 hL1
        go_enter Try.func3, Try.ntmps3
        go_wp2_with fail
        refine (tame_any A xs c _ HX.out).mono ?_
        rintro e w1 ⟨rfl, hb⟩
        rw [HT.out]
        have HB1 := hid hb; clear hb
        go_wp2_with fail
        refine (refright_any A xs c _ (HX.out.below HB1.out)).mono ?_
        rintro e w2 ⟨rfl, hb⟩
        rw [HK.out]
        have HB2 := hid (Below.step HB1.out hb); clear hb
        go_wp2_with fail
        refine (pack_packed A xs c _ (HX.out.below HB2.out) HK.out).mono ?_
        rintro e w3 ⟨B3, c3, rfl, hB, hb⟩
        rw [← HL.out] at hB ⊢
        have HB3 := hid (Below.step HB2.out hb); have HA3 := hid hB; clear hb hB
        go_wp2_with fail
        refine (unpack_packed w3 B3 c3 xs L HL.out HK.out HA3.out).mono ?_
        rintro e w4 ⟨B4, c4, rfl, hl4, hb⟩
        have HB4 := hid (Below.step HB3.out hb); have HL4 := hid hl4; clear hb hl4
        go_wp2_with fail
        refine (play_any f g HF.out HG.out A xs c m w4 (HX.out.below HB4.out) HK.out H6.out HM.out).mono ?_
        rintro e w5 ⟨A5, c5, rfl, hi5, hb⟩
        rw [← HO.out] at hi5 ⊢
        have HB5 := hid (Below.step HB4.out hb); have HI5 := hid hi5; have HL5 := hid (HL4.out.below hb); clear hb hi5
        go_wp2_with fail
        refine (play_any f g HF.out HG.out B4 xs c4 m w5 HL5.out HK.out H6.out HM.out).mono ?_
        rintro e w6 ⟨A6, c6, rfl, hi6, hb⟩
        rw [← HO.out] at hi6 ⊢
        have HB6 := hid (Below.step HB5.out hb); have HI6 := hid hi6; have HI5' := hid (HI5.out.below hb); clear hb hi6
        go_wp2_with fail
        refine (ints_equal_long A5 A6 O c5 c6 w6 HI5'.out HI6.out HOL.out).mono ?_
        rintro e w7 ⟨rfl, hb⟩
        have HB7 := hid (Below.step HB6.out hb); clear hb
        go_wp2
        go_ret
        exact ⟨rfl, HB7.out⟩
      · have HT := hid ht; clear ht
        have HK := hid hok; clear hok
        have hcase : n < 0 ∨ (¬ n < 0 ∧ 40 < n) := by omega
        rcases hcase with h | ⟨h, h'⟩
        · have hd1 : decide (n < 0) = true := decide_eq_true h
          clear hn h
          go_enter Try.func3, Try.ntmps3
          go_wp2_with fail
          refine (tame_any A xs c _ HX.out).mono ?_
          rintro e w1 ⟨rfl, hb⟩
          rw [HT.out]
          have HB1 := hid hb; clear hb
          go_wp2_with fail
          refine (refright_any A xs c _ (HX.out.below HB1.out)).mono ?_
          rintro e w2 ⟨rfl, hb⟩
          rw [HK.out]
          have HB2 := hid (Below.step HB1.out hb); clear hb
          go_wp2
          go_ret
          exact ⟨rfl, HB2.out⟩
        · have hd1 : decide (n < 0) = false := decide_eq_false h
          have hd2 : decide (40 < n) = true := decide_eq_true h'
          clear hn h h'
          go_enter Try.func3, Try.ntmps3
          go_wp2_with fail
          refine (tame_any A xs c _ HX.out).mono ?_
          rintro e w1 ⟨rfl, hb⟩
          rw [HT.out]
          have HB1 := hid hb; clear hb
          go_wp2_with fail
          refine (refright_any A xs c _ (HX.out.below HB1.out)).mono ?_
          rintro e w2 ⟨rfl, hb⟩
          rw [HK.out]
          have HB2 := hid (Below.step HB1.out hb); clear hb
          go_wp2
          go_ret
          exact ⟨rfl, HB2.out⟩
open Go.ChangeShapes Go.WideShapes Go.ChangeAt in
set_option maxRecDepth 100000 in
theorem ChiplogHeard_opened {H : Type} {enc : TypeId × Value → H} (W : World) (base : Nat) (v0 v1 : Value) {d0 d1 : DataW H} {p0 p1 : List MemPlace}
    (o0 : Value.okWide Try.prog W .any base 22 v0) (o1 : Value.okWide Try.prog W .any base 3 v1) (h0 : DataW.Trod enc Try.prog W 0 (fun _ => true) true 22 v0 d0 p0) (h1 : DataW.Trod enc Try.prog W 0 (fun _ => true) true 3 v1 d1 p1) :
    Calls Try.prog 3 #[v0, v1] W fun e w' => e = .returned (.bool true) ∧ Below W.heap.size W w' := by
  obtain ⟨A, xs, c, rfl, hx⟩ := open_log W base v0 d0 p0 o0 h0
  obtain ⟨n, rfl, _, _, _⟩ := open_int Try.underlying3 o1 h1
  exact heard_law A xs c n W hx
end Go.Proofs.Ytmogoaceangblaa
