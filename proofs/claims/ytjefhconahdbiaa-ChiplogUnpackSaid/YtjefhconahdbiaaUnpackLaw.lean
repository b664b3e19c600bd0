/- ChiplogUnpack: what any bytes are unpacked to, or how they are refused, and the cycles of each entry. -/
import Derived.Test.YtjefhconahdbiaaRd14
import Derived.Test.YtjefhconahdbiaaOpenBytes
import Derived.Test.YtjefhconahdbiaaSameLog
namespace Go.Proofs.Ytjefhconahdbiaa
open Go.RowKit

set_option maxHeartbeats 4000000 in
set_option maxRecDepth 100000 in
theorem unpack_law (w : World) (A : Option Addr) (cc : Nat) (b : List Int) (hA : BytesAt w A b) (hs : ∀ p o, A = some ⟨p, o, none⟩ → p < w.heap.size) (hr : ∀ v ∈ b, 0 ≤ v ∧ v < 256) :
    Calls Try.prog 12 #[.slice A b.length cc] w fun e w' => e = .returned (.bool true) ∧ Below w.heap.size w w' := by
  by_cases hl : b.length ≤ 5000
  · have hd : decide ((5000 : Int) < (b.length : Int)) = false := decide_eq_false (by omega)
    obtain ⟨L, C, n, er, h4, hz, hc, k1, k2, k3, k4⟩ := unpack_both w A cc b hA hs hr hl
    have H1 := hid k1; have H2 := hid k2; have H3 := hid k3; have H4 := hid k4; have HL4 := hid h4; have HZ := hid hz; have HC4 := hid hc
    have hen : (n == n) = true := by simp
    have hee : (er == er) = true := by simp
    clear hA hs hr k1 k2 k3 k4 h4 hz hc hl
    go_enter Try.func12, Try.ntmps12
    go_wp2_with fail
    refine (H1.out _ (Below.refl _ _)).mono ?_
    rintro e w1 ⟨A1, c1, rfl, hl1, hb⟩
    have HB1 := hid hb; have HL1 := hid hl1; clear hb hl1
    go_wp2_with fail
    refine (H2.out _ HB1.out).mono ?_
    rintro e w2 ⟨A2, c2, rfl, hl2, hb⟩
    have HB2 := hid (Below.step HB1.out hb); have HL2 := hid hl2; have HL1b := hid (HL1.out.below hb); clear hb hl2 HL1
    go_wp2_with fail
    refine (H3.out _ HB2.out).mono ?_
    rintro e w3 ⟨A3, c3, rfl, hl3, hb⟩
    have HB3 := hid (Below.step HB2.out hb); have HL3 := hid hl3; have HL1c := hid (HL1b.out.below hb); have HL2c := hid (HL2.out.below hb); clear hb hl3 HL1b HL2
    go_wp2_with fail
    refine (H4.out _ HB3.out).mono ?_
    rintro e w4 ⟨A4, c4, rfl, hl4, hb⟩
    have HB4 := hid (Below.step HB3.out hb); have HL4' := hid hl4; have HL1d := hid (HL1c.out.below hb); have HL2d := hid (HL2c.out.below hb); have HL3d := hid (HL3.out.below hb); clear hb hl4 HL1c HL2c HL3
    go_wp2_with fail
    refine (same_same A1 A2 L c1 c2 w4 HL1d.out HL2d.out HL4.out HZ.out).mono ?_
    rintro e w5 ⟨rfl, hb⟩
    have HB5 := hid (Below.step HB4.out hb); have HL3e := hid (HL3d.out.below hb); have HL4e := hid (HL4'.out.below hb); clear hb
    go_wp2_with fail
    refine (ints_equal' A3 A4 C c3 c4 w5 HL3e.out HL4e.out HC4.out).mono ?_
    rintro e w6 ⟨rfl, hb⟩
    have HB6 := hid (Below.step HB5.out hb); clear hb
    go_wp2
    go_ret
    exact ⟨rfl, HB6.out⟩
  · have hd : decide ((5000 : Int) < (b.length : Int)) = true := decide_eq_true (by omega)
    clear hA hs hr hl
    go_enter Try.func12, Try.ntmps12
    go_wp2
    go_ret
    exact ⟨rfl, Below.refl _ _⟩

open Go.ChangeShapes Go.WideShapes Go.ChangeAt in
set_option maxRecDepth 100000 in
theorem ChiplogUnpack_opened {H : Type} {enc : TypeId × Value → H} (W : World) (base : Nat) (v0 : Value) {d0 : DataW H} {p0 : List MemPlace}
    (o0 : Value.okWide Try.prog W .any base 55 v0) (h0 : DataW.Trod enc Try.prog W 0 (fun _ => true) true 55 v0 d0 p0) :
    Calls Try.prog 12 #[v0] W fun e w' => e = .returned (.bool true) ∧ Below W.heap.size W w' := by
  obtain ⟨A, L, c, rfl, hA, _, hr⟩ := open_bytes W base v0 d0 p0 o0 h0
  exact unpack_law W A c L hA (okWide_block o0) hr
end Go.Proofs.Ytjefhconahdbiaa
