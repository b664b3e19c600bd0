/- The laws on register logs: the argument opened, and ChiplogWrites joined from its two contracts. -/
import Derived.Test.YtjefhconahdbiaaDiffer
import Derived.ProofKit
import Derived.OpenShut
import Derived.Carry
import Derived.Deep.Matrix
namespace Go.Proofs.Ytjefhconahdbiaa
open Go.RowKit

theorem cells61 : Try.prog.cellsOf 61 = 1 := by kernel_rfl
theorem add_plain (a : Addr) (hs : a.spot = none) : a = ⟨a.block, a.off, none⟩ := by cases a; simp_all
open Go.ChangeShapes Go.WideShapes Go.ChangeAt in
set_option maxRecDepth 100000 in
theorem open_log {H : Type} {enc : TypeId × Value → H} (W : World) (base : Nat) (v : Value) (d : DataW H) (p : List MemPlace)
    (ho : Value.okWide Try.prog W .any base 36 v) (h : DataW.Trod enc Try.prog W 0 (fun _ => true) true 36 v d p) :
    ∃ A xs c, v = .slice A (List.length xs) c ∧ LogAt W A xs := by
  obtain ⟨A, len, cap, rfl⟩ := okWide_slice Try.underlying36 ho
  obtain ⟨fuel, hf⟩ := h
  rcases Go.Deep.open_int_rows Try.underlying36 Try.underlying61 Try.underlying3 cells61 cells3 hf with ⟨hcs, _⟩ | ⟨a, l, c, B, L, C, Z, hcs, _, hl, hm, _, hx⟩
  · simp [Value.cells] at hcs
    obtain ⟨rfl, rfl, rfl⟩ := hcs
    exact ⟨none, [], 0, rfl, fun i hi => by simp at hi⟩
  · simp [Value.cells] at hcs
    obtain ⟨rfl, rfl, rfl⟩ := hcs
    refine ⟨some a, (List.range len).map (fun r => (Z r).take (L r)), cap, by simp, fun i hi => ?_⟩
    simp at hi
    obtain ⟨h1, h2, h3, h4, _, h6, h7⟩ := hx i (by omega)
    have hsp := cell_spot (hx 0 (by omega)).1
    have hsp' : a.spot = none := by simpa [Addr.add] using hsp
    have hlen : ((Z i).take (L i)).length = L i := by simp; omega
    refine ⟨a.block, a.off, B i, C i, (Z i).take (L i), congrArg some (add_plain a hsp'), by simp [hi], ?_, ?_⟩
    · rw [hlen]
      rw [add_at _ hsp'] at h1
      exact h1
    · intro h0
      rw [hlen] at h0
      cases hB : B i with
      | none => have := h6 hB; omega
      | some a' =>
        obtain ⟨_, hc⟩ := h7 a' hB
        have hs0 : a'.spot = none := by simpa [Addr.add] using cell_spot (hc 0 (by omega))
        refine ⟨a'.block, a'.off, congrArg some (add_plain a' hs0), fun j v hj => ?_⟩
        have hj' : j < L i := by have := (List.getElem?_eq_some_iff.1 hj).1; rw [icells_len, hlen] at this; exact this
        have hcj := hc j (by omega)
        rw [add_at _ hs0] at hcj
        rw [hcj]
        simp only [icells, List.getElem?_map, List.getElem?_take, if_pos hj', Option.map_eq_some_iff] at hj
        obtain ⟨y, hy, rfl⟩ := hj
        rw [List.getD, hy]
        rfl

theorem writes_both (A : Option Addr) (xs : List (List Int)) (c : Nat) (w : World) (hx : LogAt w A xs) : ∃ m er : Int,
    (∀ w1, Below w.heap.size w w1 → Calls Try.prog 21 #[.slice A xs.length c] w1 fun e w' => e = .returned (.tuple #[.int .i64 m, .int .i64 er]) ∧ Below w1.heap.size w1 w') ∧
    (∀ w1, Below w.heap.size w w1 → Calls Try.prog 22 #[.slice A xs.length c] w1 fun e w' => e = .returned (.tuple #[.int .i64 m, .int .i64 er]) ∧ Below w1.heap.size w1 w') :=
  ⟨_, _, fun _ hb => writes_any A xs c _ (hx.below hb), fun _ hb => refwrites_any A xs c _ (hx.below hb)⟩
set_option maxHeartbeats 1000000 in
theorem writes_law (A : Option Addr) (xs : List (List Int)) (c : Nat) (w : World) (hx : LogAt w A xs) :
    Calls Try.prog 6 #[.slice A xs.length c] w fun e w' => e = .returned (.bool true) ∧ Below w.heap.size w w' := by
  have HX := hid hx; clear hx
  cases ht : tameLog xs with
  | false =>
    have HT := hid ht; clear ht
    go_enter Try.func6, Try.ntmps6
    go_wp2_with fail
    refine (tame_any A xs c _ HX.out).mono ?_
    rintro e w1 ⟨rfl, hb⟩
    rw [HT.out]
    have HB1 := hid hb; clear hb
    go_wp2
    go_ret
    exact ⟨rfl, HB1.out⟩
  | true =>
    have HT := hid ht; clear ht
    obtain ⟨m, er, h1, h2⟩ := writes_both A xs c w HX.out
    have H1 := hid h1; have H2 := hid h2; clear h1 h2
    have hm : (m == m) = true := by simp
    have her : (er == er) = true := by simp
    go_enter Try.func6, Try.ntmps6
    go_wp2_with fail
    refine (tame_any A xs c _ HX.out).mono ?_
    rintro e w1 ⟨rfl, hb⟩
    rw [HT.out]
    have HB1 := hid hb; clear hb
    go_wp2_with fail
    refine (H1.out _ HB1.out).mono ?_
    rintro e w2 ⟨rfl, hb⟩
    have HB2 := hid (Below.step HB1.out hb); clear hb
    go_wp2_with fail
    refine (H2.out _ HB2.out).mono ?_
    rintro e w3 ⟨rfl, hb⟩
    have HB3 := hid (Below.step HB2.out hb); clear hb
    go_wp2
    go_ret
    exact ⟨rfl, HB3.out⟩

open Go.ChangeShapes Go.WideShapes Go.ChangeAt in
set_option maxRecDepth 100000 in
theorem ChiplogWrites_opened {H : Type} {enc : TypeId × Value → H} (W : World) (base : Nat) (v0 : Value) {d0 : DataW H} {p0 : List MemPlace}
    (o0 : Value.okWide Try.prog W .any base 36 v0) (h0 : DataW.Trod enc Try.prog W 0 (fun _ => true) true 36 v0 d0 p0) :
    Calls Try.prog 6 #[v0] W fun e w' => e = .returned (.bool true) ∧ Below W.heap.size W w' := by
  obtain ⟨A, xs, c, rfl, hx⟩ := open_log W base v0 d0 p0 o0 h0
  exact writes_law A xs c W hx
end Go.Proofs.Ytjefhconahdbiaa
