/- MixAdd returns true for all slices of frames that can be read: mix.Add and the reference's Add return the same sums, or the same error. -/
import Derived.Test.YtjefhconahdbiaaAdd6
import Derived.Test.YtjefhconahdbiaaOpen
import Derived.ProofKit
import Derived.OpenShut
import Derived.Carry
import Derived.Deep.Slices
namespace Go.Proofs.Ytjefhconahdbiaa
open Go.RowKit

theorem added_err5 {xs ys : List (Int × Int)} {w w' : World} (h : (allOK xs && allOK ys) = false) (hb : Below w.heap.size w w') : Added xs ys w (.returned (.tuple #[.slice none 0 0, .int .i64 5])) w' := by
  unfold Added addS; rw [if_pos h]; exact ⟨_, rfl, World.ownsRow_nil _ _ _ _, hb⟩
theorem added_err4 {xs ys : List (Int × Int)} {w w' : World} (h1 : allOK xs = true) (h2 : allOK ys = true) (h : xs.length ≠ ys.length) (hb : Below w.heap.size w w') : Added xs ys w (.returned (.tuple #[.slice none 0 0, .int .i64 4])) w' := by
  unfold Added addS; rw [h1, h2, if_neg (by simp), if_neg h]; exact ⟨_, rfl, World.ownsRow_nil _ _ _ _, hb⟩

set_option maxHeartbeats 1000000 in
theorem add_any (A B : Option Addr) (xs ys : List (Int × Int)) (c d : Nat) (w : World) (hx : FramesAt w A xs) (hy : FramesAt w B ys)
    (hA : A = none → xs.length = 0 ∧ c = 0) (hn1 : xs.length ≤ 2 ^ 47) (hn2 : ys.length ≤ 2 ^ 47) :
    Calls Try.prog 23 #[.slice A xs.length c, .slice B ys.length d] w (Added xs ys w) := by
  cases h1 : allOK xs with
  | false =>
    have HX := hid hx; clear hx hy hA
    have H1 := hid h1; clear h1
    go_enter Try.func23, Try.ntmps23
    go_wp2_with fail
    refine (framesOK A xs c _ HX.out hn1).mono ?_
    rintro e w1 ⟨rfl, hb1⟩
    rw [H1.out]
    have HB1 := hid hb1; clear hb1
    go_wp2
    go_ret2
    exact added_err5 (by rw [H1.out]; rfl) HB1.out
  | true =>
    cases h2 : allOK ys with
    | false =>
      have HX := hid hx; have HY := hid hy; clear hx hy hA
      have H1 := hid h1; clear h1
      have H2 := hid h2; clear h2
      go_enter Try.func23, Try.ntmps23
      go_wp2_with fail
      refine (framesOK A xs c _ HX.out hn1).mono ?_
      rintro e w1 ⟨rfl, hb1⟩
      rw [H1.out]
      have HB1 := hid hb1; clear hb1
      go_wp2_with fail
      refine (framesOK B ys d _ (HY.out.below HB1.out) hn2).mono ?_
      rintro e w2 ⟨rfl, hb2⟩
      rw [H2.out]
      have HB2 := hid (Below.step HB1.out hb2); clear hb2
      go_wp2
      go_ret2
      exact added_err5 (by rw [H1.out, H2.out]; rfl) HB2.out
    | true =>
      by_cases h3 : xs.length = ys.length
      · exact add_walk A B xs ys c d w hx hy hA h1 h2 h3
      · have HX := hid hx; have HY := hid hy; clear hx hy hA
        have H1 := hid h1; clear h1
        have H2 := hid h2; clear h2
        have hne : ((xs.length : Int) != (ys.length : Int)) = true := by rw [bne_iff_ne]; omega
        go_enter Try.func23, Try.ntmps23
        go_wp2_with fail
        refine (framesOK A xs c _ HX.out hn1).mono ?_
        rintro e w1 ⟨rfl, hb1⟩
        rw [H1.out]
        have HB1 := hid hb1; clear hb1
        go_wp2_with fail
        refine (framesOK B ys d _ (HY.out.below HB1.out) hn2).mono ?_
        rintro e w2 ⟨rfl, hb2⟩
        rw [H2.out]
        have HB2 := hid (Below.step HB1.out hb2); clear hb2
        go_wp2
        go_ret2
        exact added_err4 H1.out H2.out h3 HB2.out

set_option maxHeartbeats 1000000 in
theorem refadd_any (A B : Option Addr) (xs ys : List (Int × Int)) (c d : Nat) (w : World) (hx : FramesAt w A xs) (hy : FramesAt w B ys) (hn1 : xs.length ≤ 2 ^ 47) (hn2 : ys.length ≤ 2 ^ 47) :
    Calls Try.prog 24 #[.slice A xs.length c, .slice B ys.length d] w (Added xs ys w) := by
  cases h1 : allOK xs with
  | false =>
    have HX := hid hx; clear hx hy
    have H1 := hid h1; clear h1
    go_enter Try.func24, Try.ntmps24
    go_wp2_with fail
    refine (ref_tame A xs c _ HX.out hn1).mono ?_
    rintro e w1 ⟨rfl, hb1⟩
    rw [H1.out]
    have HB1 := hid hb1; clear hb1
    go_wp2
    go_ret2
    exact added_err5 (by rw [H1.out]; rfl) HB1.out
  | true =>
    cases h2 : allOK ys with
    | false =>
      have HX := hid hx; have HY := hid hy; clear hx hy
      have H1 := hid h1; clear h1
      have H2 := hid h2; clear h2
      go_enter Try.func24, Try.ntmps24
      go_wp2_with fail
      refine (ref_tame A xs c _ HX.out hn1).mono ?_
      rintro e w1 ⟨rfl, hb1⟩
      rw [H1.out]
      have HB1 := hid hb1; clear hb1
      go_wp2_with fail
      refine (ref_tame B ys d _ (HY.out.below HB1.out) hn2).mono ?_
      rintro e w2 ⟨rfl, hb2⟩
      rw [H2.out]
      have HB2 := hid (Below.step HB1.out hb2); clear hb2
      go_wp2
      go_ret2
      exact added_err5 (by rw [H1.out, H2.out]; rfl) HB2.out
    | true =>
      by_cases h3 : xs.length = ys.length
      · exact refadd_walk A B xs ys c d w hx hy h1 h2 h3
      · have HX := hid hx; have HY := hid hy; clear hx hy
        have H1 := hid h1; clear h1
        have H2 := hid h2; clear h2
        have hne : ((xs.length : Int) != (ys.length : Int)) = true := by rw [bne_iff_ne]; omega
        go_enter Try.func24, Try.ntmps24
        go_wp2_with fail
        refine (ref_tame A xs c _ HX.out hn1).mono ?_
        rintro e w1 ⟨rfl, hb1⟩
        rw [H1.out]
        have HB1 := hid hb1; clear hb1
        go_wp2_with fail
        refine (ref_tame B ys d _ (HY.out.below HB1.out) hn2).mono ?_
        rintro e w2 ⟨rfl, hb2⟩
        rw [H2.out]
        have HB2 := hid (Below.step HB1.out hb2); clear hb2
        go_wp2
        go_ret2
        exact added_err4 H1.out H2.out h3 HB2.out

theorem Below_drewN {B : Nat} {a w : World} (h : Below B a w) (n : Nat) : Below B a (w.drewN n) := ⟨h.os, h.tape, h.output, h.size, h.block⟩
set_option maxHeartbeats 1000000 in
theorem equal_same (A B : Option Addr) (xs : List (Int × Int)) (c d : Nat) (w : World) (hx : FramesAt w A xs) (hy : FramesAt w B xs) (hn1 : xs.length ≤ 2 ^ 47) :
    Calls Try.prog 25 #[.slice A xs.length c, .slice B xs.length d] w fun e w' => e = .returned (.bool true) ∧ Below w.heap.size w w' := by
  have HX := hid hx; have HY := hid hy; clear hx hy
  have hne : ((xs.length : Int) != (xs.length : Int)) = false := by simp
  go_enter Try.func25, Try.ntmps25
  go_wp2
  go_loopw [5, 13] (fun _ i wr => ∃ k : Nat, k ≤ xs.length ∧ i = .int .i64 k ∧ Hid (Below w.heap.size w wr)) (fun _ i _ => xs.length - (intOf i).toNat)
  case atStart => exact ⟨0, Nat.zero_le _, rfl, Below.refl _ _⟩
  case round =>
    obtain ⟨k, hk, rfl, HB⟩ := hrel
    by_cases hlt : k < xs.length
    · obtain ⟨b, off, x, y, rfl, hxk, hc1, hc2⟩ := (HX.out.below HB.out) k hlt
      obtain ⟨b', off', x', y', rfl, hxk', hd1, hd2⟩ := (HY.out.below HB.out) k hlt
      rw [hxk] at hxk'; cases hxk'; clear hxk
      have hk0 : (0 : Int) ≤ (k : Int) := Int.natCast_nonneg _
      have hk1 : (k : Int) < (xs.length : Int) := by omega
      go_wp2
      go_quiet (fail)
      go_wp2
      go_roundw
      case rel => exact ⟨k + 1, by omega, by go_num, Below_drewN HB.out nq⟩
      case measure => simp [intOf]; omega
    · obtain rfl : k = xs.length := by omega
      go_wp2
      go_ret
      exact ⟨rfl, HB.out⟩
theorem FramesAt.own {w : World} {base : Nat} {v : Value} {n : Nat} {xs : List (Int × Int)} (h : w.ownsRow base 45 2 v n (cellsOf xs)) :
    n = xs.length ∧ ∃ A c, v = .slice A n c ∧ FramesAt w A xs := by
  have hl := h.1
  rw [cells_len] at hl
  have hn : n = xs.length := by omega
  refine ⟨hn, ?_⟩
  subst hn
  rcases Nat.eq_zero_or_pos xs.length with h0 | h0
  · rcases h.2 with ⟨h', h2⟩ | ⟨g, cap, cur, h1, _⟩
    · exact ⟨none, 0, by rw [h', h0], fun i hi => by omega⟩
    · exact ⟨_, _, h1, fun i hi => by omega⟩
  · obtain ⟨g, cap, rfl, _, _⟩ := own_form h h0
    refine ⟨_, _, rfl, fun i hi => ?_⟩
    obtain ⟨x, y, hxi⟩ : ∃ x y, xs[i]? = some (x, y) := ⟨_, _, List.getElem?_eq_getElem hi⟩
    obtain ⟨g1, g2⟩ := cells_at xs i x y hxi
    exact ⟨g, 0, x, y, rfl, hxi, by rw [Nat.zero_add, h.cellAt _ (by omega), g1], by rw [Nat.zero_add, h.cellAt _ (by omega), g2]⟩

set_option maxHeartbeats 1000000 in
theorem law_walk (A B : Option Addr) (xs ys : List (Int × Int)) (c d : Nat) (w : World) (hx : FramesAt w A xs) (hy : FramesAt w B ys)
    (hA : A = none → xs.length = 0 ∧ c = 0) :
    Calls Try.prog 7 #[.slice A xs.length c, .slice B ys.length d] w fun e w' => e = .returned (.bool true) ∧ Below w.heap.size w w' := by
  by_cases h1 : 2000 < xs.length
  · have h1' : decide (2000 < (xs.length : Int)) = true := decide_eq_true (by omega)
    clear hx hy hA
    go_enter Try.func7, Try.ntmps7
    go_wp2
    go_ret
    exact ⟨rfl, Below.refl _ _⟩
  · have h1' : decide (2000 < (xs.length : Int)) = false := decide_eq_false (by omega)
    by_cases h2 : 2000 < ys.length
    · have h2' : decide (2000 < (ys.length : Int)) = true := decide_eq_true (by omega)
      clear hx hy hA
      go_enter Try.func7, Try.ntmps7
      go_wp2
      go_ret
      exact ⟨rfl, Below.refl _ _⟩
    · have h2' : decide (2000 < (ys.length : Int)) = false := decide_eq_false (by omega)
      have hn1 : xs.length ≤ 2 ^ 47 := by omega
      have hn2 : ys.length ≤ 2 ^ 47 := by omega
      have HX := hid hx; have HY := hid hy; have HA := hid hA; clear hx hy hA
      go_enter Try.func7, Try.ntmps7
      go_wp2_with fail
      refine (add_any A B xs ys c d _ HX.out HY.out HA.out hn1 hn2).mono ?_
      rintro e w1 ⟨v1, rfl, ho1, hb1⟩
      have HO1 := hid ho1; have HB1 := hid hb1; clear ho1 hb1
      go_wp2_with fail
      refine (refadd_any A B xs ys c d _ (HX.out.below HB1.out) (HY.out.below HB1.out) hn1 hn2).mono ?_
      rintro e w2 ⟨v2, rfl, ho2, hb2⟩
      obtain ⟨hl1, A1, c1, rfl, hf1⟩ := FramesAt.own HO1.out
      obtain ⟨hl2, A2, c2, rfl, hf2⟩ := FramesAt.own ho2
      have HF1 := hid (hf1.below hb2); have HF2 := hid hf2
      have HB2 := hid (Below.step HB1.out hb2); clear ho2 hb2 hf1 hf2 hl1 hl2 HO1
      have HL : Hid ((addS xs ys).1.length ≤ 2 ^ 47) := hid (by unfold addS; split; · simp
                                                                split <;> simp; omega)
      have hcode : ((addS xs ys).2 == (addS xs ys).2) = true := by simp
      go_wp2_with fail
      refine (equal_same A1 A2 _ c1 c2 _ HF1.out HF2.out ?_).mono ?_
      · exact HL.out
      rintro e w3 ⟨rfl, hb3⟩
      have HB3 := hid (Below.step HB2.out hb3); clear hb3
      go_wp2
      go_ret
      exact ⟨rfl, HB3.out⟩
theorem cells45 : Try.prog.cellsOf 45 = 2 := by kernel_rfl

open Go.ChangeShapes Go.WideShapes Go.ChangeAt in
set_option maxRecDepth 100000 in
theorem open_frames {H : Type} {enc : TypeId × Value → H} (W : World) (base : Nat) (v : Value) (d : DataW H) (p : List MemPlace)
    (ho : Value.okWide Try.prog W .any base 40 v) (h : DataW.Trod enc Try.prog W 0 (fun _ => true) true 40 v d p) :
    ∃ A xs c, v = .slice A (List.length xs) c ∧ FramesAt W A xs ∧ (A = none → xs.length = 0 ∧ c = 0) := by
  obtain ⟨A, len, cap, rfl⟩ := okWide_slice Try.underlying40 ho
  obtain ⟨fuel, hf⟩ := h
  rcases Go.Deep.open_slice Try.underlying40 hf with ⟨hcs, _⟩ | ⟨a, l, c, m, n, D, Pl, hcs, _, hl, hm, hmm, _, hx⟩
  · simp [Value.cells] at hcs
    obtain ⟨rfl, rfl, rfl⟩ := hcs
    exact ⟨none, [], 0, rfl, fun i hi => by simp at hi, fun _ => ⟨rfl, rfl⟩⟩
  · simp [Value.cells] at hcs
    obtain ⟨rfl, rfl, rfl⟩ := hcs
    have key : ∀ i, i < len → ∃ b off x y, a = ⟨b, off, none⟩ ∧ W.cell? ⟨b, off + i * 2, none⟩ = some (.int .i64 x) ∧ W.cell? ⟨b, off + i * 2 + 1, none⟩ = some (.int .i64 y) := by
      have one : ∀ i, i < len → ∃ x y, W.cell? (a.add (i * 2)) = some (.int .i64 x) ∧ W.cell? ((a.add (i * 2)).add 1) = some (.int .i64 y) := by
        intro i hi
        obtain ⟨cs', h1, h2⟩ := hx i (by rw [hmm]; simp; omega)
        rw [cells45] at h1
        obtain ⟨_, hlen, hc⟩ := World.cells?_some h1
        obtain ⟨n0, e0, _⟩ := field_int Try.underlying45 h2 0 3 0 rfl Try.underlying3 cells3
        obtain ⟨n1, e1, _⟩ := field_int Try.underlying45 h2 1 3 1 rfl Try.underlying3 cells3
        exact ⟨n0, n1, (hc 0 (by omega)).trans e0, (hc 1 (by omega)).trans e1⟩
      intro i hi
      obtain ⟨_, _, z, _⟩ := one 0 (by omega)
      have hs : a.spot = none := cell_spot (by simpa [Addr.add] using z)
      obtain ⟨x, y, g0, g1⟩ := one i hi
      rw [add_at _ hs] at g0 g1
      rw [add_at _ rfl] at g1
      exact ⟨a.block, a.off, x, y, by cases a; simp_all, g0, g1⟩
    obtain ⟨f, hf'⟩ := Go.Deep.choose_lt (p := fun i (x : Int × Int) => ∃ b off, a = ⟨b, off, none⟩ ∧ W.cell? ⟨b, off + i * 2, none⟩ = some (.int .i64 x.1) ∧ W.cell? ⟨b, off + i * 2 + 1, none⟩ = some (.int .i64 x.2)) (fun i hi => by
      obtain ⟨b, off, x, y, h⟩ := key i hi
      exact ⟨(x, y), b, off, h⟩)
    refine ⟨some a, (List.range len).map f, cap, by simp, fun i hi => ?_, fun h => by cases h⟩
    simp at hi
    obtain ⟨b, off, rfl, h1, h2⟩ := hf' i hi
    exact ⟨b, off, (f i).1, (f i).2, rfl, by simp [hi], h1, h2⟩

open Go.ChangeShapes Go.WideShapes Go.ChangeAt in
set_option maxRecDepth 100000 in
theorem MixAdd_opened {H : Type} {enc : TypeId × Value → H} (W : World) (base : Nat) (v0 v1 : Value) {d0 d1 : DataW H} {p0 p1 : List MemPlace}
    (o0 : Value.okWide Try.prog W .any base 40 v0) (o1 : Value.okWide Try.prog W .any base 40 v1)
    (h0 : DataW.Trod enc Try.prog W 0 (fun _ => true) true 40 v0 d0 p0) (h1 : DataW.Trod enc Try.prog W 0 (fun _ => true) true 40 v1 d1 p1) :
    Calls Try.prog 7 #[v0, v1] W fun e w' => e = .returned (.bool true) ∧ Below W.heap.size W w' := by
  obtain ⟨A, xs, c, rfl, hx, hA⟩ := open_frames W base v0 d0 p0 o0 h0
  obtain ⟨B, ys, d, rfl, hy, _⟩ := open_frames W base v1 d1 p1 o1 h1
  exact law_walk A B xs ys c d W hx hy hA
end Go.Proofs.Ytjefhconahdbiaa
