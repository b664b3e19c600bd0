/- ChiplogPack: both Packs give the same bytes, Size their number. -/
import Derived.Test.YtjefhconahdbiaaPack
import Derived.Test.YtjefhconahdbiaaLogLaws
import Derived.Shelf.Bytes.SlSmallAll
namespace Go.Proofs.Ytjefhconahdbiaa
open Go.RowKit

def BytesAt (w : World) (A : Option Addr) (L : List Int) : Prop := Lib.BytesIn w A L.length L
theorem BytesAt.below {w w' : World} {A : Option Addr} {L : List Int} (h : BytesAt w A L) (hb : Below w.heap.size w w') : BytesAt w' A L := by
  intro h0
  obtain ⟨b, o, e, hc⟩ := h h0
  exact ⟨b, o, e, fun i hi => (hb.cell (World.block_lt_of_cell? w _ (hc i hi))).trans (hc i hi)⟩
theorem bytesAt_own {w : World} {base : Nat} {v : Value} {L : List Int} (h : w.ownsRow base 5 1 v L.length (u8cells L)) : ∃ A c, v = .slice A L.length c ∧ BytesAt w A L := by
  rcases h.2 with ⟨rfl, h0⟩ | ⟨g, cap, cur, rfl, _⟩
  · exact ⟨none, 0, by rw [h0], fun h' => by omega⟩
  · refine ⟨_, cap, rfl, fun _ => ⟨g, 0, rfl, fun i hi => ?_⟩⟩
    rw [Nat.zero_add]
    refine own_at h (u8cells_at ?_)
    rw [List.getD, List.getElem?_eq_getElem hi]; rfl
def bytesFor (xs : List (List Int)) : List Int := if okLog xs then packed xs else []
def Bytesd (L : List Int) (er : Int) (w : World) (e : Ending) (w' : World) : Prop :=
  ∃ A c, e = .returned (.tuple #[.slice A L.length c, .int .i64 er]) ∧ BytesAt w' A L ∧ Below w.heap.size w w'
theorem bytesd_of {xs : List (List Int)} {w w' : World} {e : Ending} (h : Packs xs w e w') : Bytesd (bytesFor xs) (if okLog xs then 0 else 1) w e w' := by
  obtain ⟨v, rfl, h1, h2, hb⟩ := h
  unfold bytesFor
  cases hok : okLog xs with
  | true =>
    obtain ⟨A, c, rfl, hA⟩ := bytesAt_own (h1 hok)
    exact ⟨A, c, rfl, hA, hb⟩
  | false =>
    rw [h2 hok]
    exact ⟨none, 0, rfl, fun h => absurd h (Nat.lt_irrefl 0), hb⟩
theorem packs_both (A : Option Addr) (xs : List (List Int)) (c : Nat) (w : World) (hx : LogAt w A xs) : ∃ (L : List Int) (er : Int),
    (∀ w1, Below w.heap.size w w1 → Calls Try.prog 30 #[.slice A xs.length c] w1 (Bytesd L er w1)) ∧
    (∀ w1, Below w.heap.size w w1 → Calls Try.prog 31 #[.slice A xs.length c] w1 (Bytesd L er w1)) :=
  ⟨_, _, fun _ hb => (pack_any A xs c _ (hx.below hb)).mono fun _ _ h => bytesd_of h, fun _ hb => (refpack_any A xs c _ (hx.below hb)).mono fun _ _ h => bytesd_of h⟩
set_option maxHeartbeats 1000000 in
theorem size_law (A : Option Addr) (n : Nat) (c : Nat) (w : World) (L : List Int) (er : Int)
    (H : Hid (∀ w1, Below w.heap.size w w1 → Calls Try.prog 30 #[.slice A n c] w1 (Bytesd L er w1))) :
    Calls Try.prog 32 #[.slice A n c] w fun e w' => e = .returned (.tuple #[.int .i64 (L.length : Int), .int .i64 er]) ∧ Below w.heap.size w w' := by
  go_enter Try.func32, Try.ntmps32
  go_wp2_with fail
  refine (H.out _ (Below.refl _ _)).mono ?_
  rintro e w1 ⟨A1, c1, rfl, _, hb⟩
  have HB1 := hid hb; clear hb
  go_wp2
  go_ret2
  exact ⟨rfl, HB1.out⟩
set_option maxHeartbeats 1000000 in
theorem pack_law (A : Option Addr) (xs : List (List Int)) (c : Nat) (w : World) (hx : LogAt w A xs) :
    Calls Try.prog 11 #[.slice A xs.length c] w fun e w' => e = .returned (.bool true) ∧ Below w.heap.size w w' := by
  have HX := hid hx; clear hx
  cases ht : tameLog xs with
  | false =>
    have HT := hid ht; clear ht
    go_enter Try.func11, Try.ntmps11
    go_wp2_with fail
    refine (tame_any A xs c _ HX.out).mono ?_
    rintro e w1 ⟨rfl, hb⟩
    rw [HT.out]
    have HB1 := hid hb; clear hb
    go_wp2
    go_ret
    exact ⟨rfl, HB1.out⟩
  | true =>
    have HT := hid ht; clear ht
    obtain ⟨L, er, h1, h2⟩ := packs_both A xs c w HX.out
    have H1 := hid h1; have H2 := hid h2; clear h1 h2
    have her : (er == er) = true := by simp
    have hll : ((L.length : Int) == (L.length : Int)) = true := by simp
    go_enter Try.func11, Try.ntmps11
    go_wp2_with fail
    refine (tame_any A xs c _ HX.out).mono ?_
    rintro e w1 ⟨rfl, hb⟩
    rw [HT.out]
    have HB1 := hid hb; clear hb
    go_wp2_with fail
    refine (H1.out _ HB1.out).mono ?_
    rintro e w2 ⟨A2, c2, rfl, ha2, hb⟩
    have HB2 := hid (Below.step HB1.out hb); have HA2 := hid ha2; clear hb ha2
    go_wp2_with fail
    refine (H2.out _ HB2.out).mono ?_
    rintro e w3 ⟨A3, c3, rfl, ha3, hb⟩
    have HB3 := hid (Below.step HB2.out hb); have HA3 := hid ha3; have HA2' := hid (HA2.out.below hb); clear hb ha3 HA2
    go_wp2_with fail
    refine (size_law A xs.length c w3 L er (hid fun w1 h => H1.out _ (Below.step HB3.out h))).mono ?_
    rintro e w4 ⟨rfl, hb⟩
    have HB4 := hid (Below.step HB3.out hb); have HA3' := hid (HA3.out.below hb); have HA2'' := hid (HA2'.out.below hb); clear hb HA3 HA2'
    go_wp2_with fail
    refine (Try.bytes_Equal_all A2 A3 L.length c2 L.length c3 L L w4 rfl rfl HA2''.out HA3'.out).mono ?_
    rintro e w5 ⟨rfl, rfl⟩
    have hbb : (Lib.bytesOf L == Lib.bytesOf L) = true := by simp
    rw [hbb]
    go_wp2
    go_ret
    exact ⟨rfl, HB4.out⟩

open Go.ChangeShapes Go.WideShapes Go.ChangeAt in
set_option maxRecDepth 100000 in
theorem ChiplogPack_opened {H : Type} {enc : TypeId × Value → H} (W : World) (base : Nat) (v0 : Value) {d0 : DataW H} {p0 : List MemPlace}
    (o0 : Value.okWide Try.prog W .any base 36 v0) (h0 : DataW.Trod enc Try.prog W 0 (fun _ => true) true 36 v0 d0 p0) :
    Calls Try.prog 11 #[v0] W fun e w' => e = .returned (.bool true) ∧ Below W.heap.size W w' := by
  obtain ⟨A, xs, c, rfl, hx⟩ := open_log W base v0 d0 p0 o0 h0
  exact pack_law A xs c W hx
end Go.Proofs.Ytjefhconahdbiaa
