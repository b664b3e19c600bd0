/- ChiplogRows joined from its two contracts. -/
import Derived.Test.YtjefhconahdbiaaRefRows
import Derived.Test.YtjefhconahdbiaaLogLaws
namespace Go.Proofs.Ytjefhconahdbiaa
open Go.RowKit

theorem rows_both (A : Option Addr) (xs : List (List Int)) (c : Nat) (w : World) (hx : LogAt w A xs) : ∃ (s : ByteArray) (er : Int),
    (∀ w1, Below w.heap.size w w1 → Calls Try.prog 26 #[.slice A xs.length c] w1 fun e w' => e = .returned (.tuple #[.string s, .int .i64 er]) ∧ Below w1.heap.size w1 w') ∧
    (∀ w1, Below w.heap.size w w1 → Calls Try.prog 27 #[.slice A xs.length c] w1 fun e w' => e = .returned (.tuple #[.string s, .int .i64 er]) ∧ Below w1.heap.size w1 w') :=
  ⟨_, _, fun _ hb => rows_any A xs c _ (hx.below hb), fun _ hb => refrows_any A xs c _ (hx.below hb)⟩
set_option maxHeartbeats 1000000 in
theorem rows_law (A : Option Addr) (xs : List (List Int)) (c : Nat) (w : World) (hx : LogAt w A xs) :
    Calls Try.prog 8 #[.slice A xs.length c] w fun e w' => e = .returned (.bool true) ∧ Below w.heap.size w w' := by
  have HX := hid hx; clear hx
  cases ht : tameLog xs with
  | false =>
    have HT := hid ht; clear ht
    go_enter Try.func8, Try.ntmps8
    go_wp2_with fail
    refine (tame_any A xs c _ HX.out).mono ?_
    rintro e w1 ⟨rfl, hb⟩
    rw [HT.out]
    have HB1 := hid hb; clear hb
    go_wp2
    go_ret
    exact ⟨rfl, HB1.out⟩
  | true =>
    have HT := hid ht; clear ht
    obtain ⟨m, er, h1, h2⟩ := rows_both A xs c w HX.out
    have H1 := hid h1; have H2 := hid h2; clear h1 h2
    have her : (er == er) = true := by simp
    go_enter Try.func8, Try.ntmps8
    go_wp2_with fail
    refine (tame_any A xs c _ HX.out).mono ?_
    rintro e w1 ⟨rfl, hb⟩
    rw [HT.out]
    have HB1 := hid hb; clear hb
    go_wp2_with fail
    refine (H1.out _ HB1.out).mono ?_
    rintro e w2 ⟨rfl, hb⟩
    have HB2 := hid (Below.step HB1.out hb); clear hb
    go_wp2_with fail
    refine (H2.out _ HB2.out).mono ?_
    rintro e w3 ⟨rfl, hb⟩
    have HB3 := hid (Below.step HB2.out hb); clear hb
    go_wp2
    go_ret
    exact ⟨rfl, HB3.out⟩

open Go.ChangeShapes Go.WideShapes Go.ChangeAt in
set_option maxRecDepth 100000 in
theorem ChiplogRows_opened {H : Type} {enc : TypeId × Value → H} (W : World) (base : Nat) (v0 : Value) {d0 : DataW H} {p0 : List MemPlace}
    (o0 : Value.okWide Try.prog W .any base 36 v0) (h0 : DataW.Trod enc Try.prog W 0 (fun _ => true) true 36 v0 d0 p0) :
    Calls Try.prog 8 #[v0] W fun e w' => e = .returned (.bool true) ∧ Below W.heap.size W w' := by
  obtain ⟨A, xs, c, rfl, hx⟩ := open_log W base v0 d0 p0 o0 h0
  exact rows_law A xs c W hx
end Go.Proofs.Ytjefhconahdbiaa
