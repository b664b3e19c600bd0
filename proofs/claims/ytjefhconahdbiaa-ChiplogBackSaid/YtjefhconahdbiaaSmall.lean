/- ChiplogSmall: a packed log has at most 17 bytes for each entry and one; no entry costs more than 104 cycles and 4; the cycles are those of each entry. -/
import Derived.Test.YtjefhconahdbiaaReadBack
import Derived.Test.YtjefhconahdbiaaPackLaw
namespace Go.Proofs.Ytjefhconahdbiaa
open Go.RowKit

/-- What both calls give together. -/
def CycGood (n : Nat) (ys : List Int) : Prop := ys.length = max 1 n ∧ ∀ (j : Nat) (c : Int), ys[j]? = some c → 4 ≤ c ∧ c ≤ 108 ∧ (j + 1 < ys.length → c ≤ 104)
theorem okLog_both {xs : List (List Int)} (h : okLog xs = true) : xs.length ≤ 4000 ∧ ∀ z ∈ xs, z.length = 14 := by
  refine ⟨by unfold okLog at h; simp at h; omega, fun z hz => (right_range (okLog_all h z hz)).1⟩
theorem cycles_packed (w : World) (A : Option Addr) (cc : Nat) (xs : List (List Int)) (hok : okLog xs = true) (hA : BytesAt w A (packed xs)) :
    Calls Try.prog 36 #[.slice A (packed xs).length cc] w fun e w' => ∃ B c ys, e = .returned (.tuple #[.slice B ys.length c, .int .i64 0]) ∧ CycGood xs.length ys ∧ IntsAt w' B ys ∧ Below w.heap.size w w' := by
  have hl := okLog_both hok
  have hpl := packed_length xs xs.length 0 (by omega)
  have hpos : 1 ≤ (packed xs).length := hpl.1
  obtain ⟨cs, h1, h2, h3⟩ := readAll_packed xs [] hl.1 hl.2 (by rw [List.append_nil]; have : (packed xs).length ≤ 17 * (xs.length - 0) + 1 := hpl.2; omega)
  rw [List.append_nil] at h1
  refine (cycles_any w A cc (packed xs) hA (fun p o e => ?_) (packed_range (okLog_all hok))).mono ?_
  · obtain ⟨b, o', e', hc⟩ := hA (by omega)
    rw [e] at e'
    cases e'
    exact World.block_lt_of_cell? w _ (hc 0 (by omega))
  · intro e w' h
    rw [h1] at h
    obtain ⟨B, c, rfl, hB, hb⟩ := h
    have := cycEnd_ok cs h3
    exact ⟨B, c, _, rfl, ⟨by rw [this.1, h2], this.2⟩, hB, hb⟩
theorem pack_packed (A : Option Addr) (xs : List (List Int)) (c : Nat) (w : World) (hx : LogAt w A xs) (hok : okLog xs = true) :
    Calls Try.prog 30 #[.slice A xs.length c] w fun e w' => ∃ B c, e = .returned (.tuple #[.slice B (packed xs).length c, .int .i64 0]) ∧ BytesAt w' B (packed xs) ∧ Below w.heap.size w w' := by
  refine (pack_any A xs c w hx).mono fun e w' h => ?_
  obtain ⟨B, c, rfl, hB, hb⟩ := bytesd_of h
  rw [if_pos hok]
  unfold bytesFor at hB ⊢
  rw [if_pos hok] at hB ⊢
  exact ⟨B, c, rfl, hB, hb⟩
set_option maxHeartbeats 4000000 in
set_option maxRecDepth 100000 in
theorem small_law (A : Option Addr) (xs : List (List Int)) (c : Nat) (w : World) (hx : LogAt w A xs) :
    Calls Try.prog 13 #[.slice A xs.length c] w fun e w' => e = .returned (.bool true) ∧ Below w.heap.size w w' := by
  have HX := hid hx; clear hx
  cases ht : tameLog xs with
  | false =>
    have HT := hid ht; clear ht
    go_enter Try.func13, Try.ntmps13
    go_wp2_with fail
    refine (tame_any A xs c _ HX.out).mono ?_
    rintro e w1 ⟨rfl, hb⟩
    rw [HT.out]
    have HB1 := hid hb; clear hb
    go_wp2
    go_ret
    exact ⟨rfl, HB1.out⟩
  | true =>
    cases hok : okLog xs with
    | false =>
      have HT := hid ht; clear ht
      have HK := hid hok; clear hok
      go_enter Try.func13, Try.ntmps13
      go_wp2_with fail
      refine (tame_any A xs c _ HX.out).mono ?_
      rintro e w1 ⟨rfl, hb⟩
      rw [HT.out]
      have HB1 := hid hb; clear hb
      go_wp2_with fail
      refine (refright_any A xs c _ (HX.out.below HB1.out)).mono ?_
      rintro e w2 ⟨rfl, hb⟩
      rw [HK.out]
      have HB2 := hid (Below.step HB1.out hb); clear hb
      go_wp2
      go_ret
      exact ⟨rfl, HB2.out⟩
    | true =>
      have h6 : xs.length ≤ 600 := by unfold tameLog at ht; simp at ht; omega
      have hpl := packed_length xs xs.length 0 (by omega)
      obtain ⟨n, hn⟩ : ∃ n, n = (packed xs).length := ⟨_, rfl⟩
      have hn1 : 1 ≤ n := by rw [hn]; exact hpl.1
      have hn2 : n ≤ 17 * xs.length + 1 := by rw [hn]; exact hpl.2
      have HT := hid ht; clear ht
      have HK := hid hok; clear hok
      have HN := hid hn; clear hn hpl
      have hd1 : decide ((n : Int) < 1) = false := decide_eq_false (by omega)
      have hw1 : IntKind.i64.wrap (17 * (xs.length : Int)) = 17 * (xs.length : Int) := by rw [IntKind.wrap_i64]; omega
      have hw2 : IntKind.i64.wrap (17 * (xs.length : Int) + 1) = 17 * (xs.length : Int) + 1 := by rw [IntKind.wrap_i64]; omega
      have hd2 : decide (17 * (xs.length : Int) + 1 < (n : Int)) = false := decide_eq_false (by omega)
      have HD := hid hn1; have HD2 := hid hn2; have H6 := hid h6
      clear hn1 hn2 h6
      go_enter Try.func13, Try.ntmps13
      go_wp2_with fail
      refine (tame_any A xs c _ HX.out).mono ?_
      rintro e w1 ⟨rfl, hb⟩
      rw [HT.out]
      have HB1 := hid hb; clear hb
      go_wp2_with fail
      refine (refright_any A xs c _ (HX.out.below HB1.out)).mono ?_
      rintro e w2 ⟨rfl, hb⟩
      rw [HK.out]
      have HB2 := hid (Below.step HB1.out hb); clear hb
      go_wp2_with fail
      refine (pack_packed A xs c _ (HX.out.below HB2.out) HK.out).mono ?_
      rintro e w3 ⟨B3, c3, rfl, hB, hb⟩
      have HB3 := hid (Below.step HB2.out hb); have HA3 := hid hB; clear hb hB
      go_wp2_with fail
      refine (cycles_packed w3 B3 c3 xs HK.out HA3.out).mono ?_
      rintro e w4 ⟨B4, c4, ys, rfl, hg, hi, hb⟩
      have HB4 := hid (Below.step HB3.out hb); have HA4 := hid hi; have HG := hid hg
      rw [← HN.out]
      have hm : ys.length = max 1 xs.length := hg.1
      have H6' := H6.out
      have hmx : (if 1 < (xs.length : Int) then (xs.length : Int) else 1) = (ys.length : Int) := by split <;> omega
      have HM := hid hm
      have hym : ys.length < 4000 := by omega
      have hye : ((ys.length : Int) == (ys.length : Int)) = true := by simp
      have hyn : ((ys.length : Int) != (ys.length : Int)) = false := by simp
      clear hb hi hg hm H6'
      go_wp2_with fail
      go_loopw [57] (fun i wr => ∃ k : Nat, k ≤ ys.length ∧ i = .int .i64 k ∧ Hid (Below w4.heap.size w4 wr)) (fun i _ => ys.length - (intOf i).toNat)
      case atStart => exact ⟨0, Nat.zero_le _, rfl, hid (Below.refl _ _)⟩
      case round =>
        obtain ⟨k, hk, rfl, HW⟩ := hrel
        by_cases hlt : k < ys.length
        · obtain ⟨y, hy⟩ : ∃ y, ys[k]? = some y := ⟨_, List.getElem?_eq_getElem hlt⟩
          obtain ⟨g1, g2, g3⟩ := HG.out.2 k y hy
          obtain ⟨b, off, rfl, hr⟩ := HA4.out (by omega)
          have hcy : wr.cell? ⟨b, off + k, none⟩ = some (.int .i64 y) := by
            have h0 := hr k _ (icells_at hy)
            exact (HW.out.cell (World.block_lt_of_cell? w4 _ h0)).trans h0
          have hk0 : (0 : Int) ≤ (k : Int) := by omega
          have hk1 : (k : Int) < (ys.length : Int) := by omega
          have hm1 : IntKind.i64.wrap ((ys.length : Int) - 1) = (ys.length : Int) - 1 := by rw [IntKind.wrap_i64]; omega
          have e1 : decide (y < 4) = false := decide_eq_false (by omega)
          have e2 : decide (108 < y) = false := decide_eq_false (by omega)
          by_cases hl : k + 1 < ys.length
          · have e3 : decide ((k : Int) < (ys.length : Int) - 1) = true := decide_eq_true (by omega)
            have e4 : decide (104 < y) = false := decide_eq_false (by have := g3 hl; omega)
            clear hr hy g1 g2 g3
            go_wp2
            go_roundw
            case rel => exact ⟨k + 1, by omega, by go_num, HW⟩
            case measure => simp [intOf]; omega
          · have e3 : decide ((k : Int) < (ys.length : Int) - 1) = false := decide_eq_false (by omega)
            clear hr hy g1 g2 g3
            go_wp2
            go_roundw
            case rel => exact ⟨k + 1, by omega, by go_num, HW⟩
            case measure => simp [intOf]; omega
        · obtain rfl : k = ys.length := by omega
          go_wp2
          go_ret
          exact ⟨rfl, Below.step HB4.out HW.out⟩

open Go.ChangeShapes Go.WideShapes Go.ChangeAt in
set_option maxRecDepth 100000 in
theorem ChiplogSmall_opened {H : Type} {enc : TypeId × Value → H} (W : World) (base : Nat) (v0 : Value) {d0 : DataW H} {p0 : List MemPlace}
    (o0 : Value.okWide Try.prog W .any base 36 v0) (h0 : DataW.Trod enc Try.prog W 0 (fun _ => true) true 36 v0 d0 p0) :
    Calls Try.prog 13 #[v0] W fun e w' => e = .returned (.bool true) ∧ Below W.heap.size W w' := by
  obtain ⟨A, xs, c, rfl, hx⟩ := open_log W base v0 d0 p0 o0 h0
  exact small_law A xs c W hx
end Go.Proofs.Ytjefhconahdbiaa
