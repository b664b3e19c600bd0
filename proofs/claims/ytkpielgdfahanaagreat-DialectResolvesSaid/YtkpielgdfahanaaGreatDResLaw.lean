/- DialectResolves: the arguments as they read. -/
import Derived.Test.YtkpielgdfahanaaGreatDRes
import Derived.Deep.Slices
namespace Go.Proofs.YtkpielgdfahanaaGreat
open Go.RowKit
theorem size23 : Tryz.prog.cellsOf 23 = 6 := by kernel_rfl
theorem cells28 : Tryz.prog.cellsOf 28 = 26 := by kernel_rfl
theorem cells26 : Tryz.prog.cellsOf 26 = 24 := by kernel_rfl
open Go.ChangeShapes Go.WideShapes Go.ChangeAt in
set_option maxRecDepth 100000 in
theorem open_cells {H : Type} {enc : TypeId × Value → H} (W : World) (base : Nat) (v : Value) (d : DataW H) (p : List MemPlace)
    (ho : Value.okWide Tryz.prog W .any base 29 v) (h : DataW.Trod enc Tryz.prog W 0 (fun _ => true) true 29 v d p) :
    ∃ A n cap, v = .slice A n cap ∧ CellsAt W A n := by
  obtain ⟨A, len, cap, rfl⟩ := okWide_slice Tryz.underlying29 ho
  obtain ⟨fuel, hf⟩ := h
  rcases Go.Deep.open_slice Tryz.underlying29 hf with ⟨hcs, _⟩ | ⟨a, l, c, m, n, D, Pl, hcs, _, hl, hm, hmm, _, hx⟩
  · simp [Value.cells] at hcs
    obtain ⟨rfl, rfl, rfl⟩ := hcs
    exact ⟨none, 0, 0, rfl, fun k hk => by omega⟩
  · simp [Value.cells] at hcs
    obtain ⟨rfl, rfl, rfl⟩ := hcs
    refine ⟨some a, len, cap, rfl, fun k hk => ?_⟩
    obtain ⟨cs0, z0, _⟩ := hx 0 (by rw [hmm]; simp; omega)
    rw [size23] at z0
    have hsp := spot_of_cells (by decide) z0
    obtain ⟨cs, h1, h2⟩ := hx k (by rw [hmm]; simp; omega)
    rw [size23] at h1
    obtain ⟨b, off, ha, hr⟩ := row_of_cells hsp h1
    obtain ⟨_, hlen, _⟩ := World.cells?_some h1
    obtain ⟨n0, e0, _⟩ := field_int Tryz.underlying23 h2 0 3 0 rfl Tryz.underlying3 cells3
    obtain ⟨n1, e1, _⟩ := field_int Tryz.underlying23 h2 1 3 1 rfl Tryz.underlying3 cells3
    obtain ⟨n2, e2, _⟩ := field_int Tryz.underlying23 h2 2 3 2 rfl Tryz.underlying3 cells3
    obtain ⟨n3, e3, _⟩ := field_int Tryz.underlying23 h2 3 3 3 rfl Tryz.underlying3 cells3
    obtain ⟨n4, e4, _⟩ := field_int Tryz.underlying23 h2 4 3 4 rfl Tryz.underlying3 cells3
    obtain ⟨n5, e5, _⟩ := field_int Tryz.underlying23 h2 5 3 5 rfl Tryz.underlying3 cells3
    refine ⟨b, off, n0, n1, n2, n3, n4, n5, by rw [ha], ?_⟩
    match cs, hlen with
    | [y0, y1, y2, y3, y4, y5], _ =>
      simp at e0 e1 e2 e3 e4 e5
      subst e0 e1 e2 e3 e4 e5
      exact hr
open Go.ChangeShapes Go.WideShapes Go.ChangeAt in
set_option maxRecDepth 100000 in
theorem open_memory {H : Type} {enc : TypeId × Value → H} (W : World) (base : Nat) (v : Value) (d : DataW H) (p : List MemPlace)
    (ho : Value.okWide Tryz.prog W .any base 28 v) (h : DataW.Trod enc Tryz.prog W 0 (fun _ => true) true 28 v d p) :
    ∃ M : List Int, M.length = 26 ∧ v = .agg (memV M) := by
  obtain ⟨ca, rfl, hsz⟩ := okWide_struct Tryz.underlying28 ho
  rw [cells28] at hsz
  obtain ⟨fuel, hf⟩ := h
  obtain ⟨xs, m, _, _, _, hl, hx⟩ := DataW.trod_struct Tryz.underlying28 hf
  have h0 := hx 0 _ rfl
  have hi : 0 < xs.length := by rw [hl]; decide
  rw [List.getElem?_eq_getElem hi] at h0
  obtain ⟨n1, e1, _⟩ := field_int Tryz.underlying28 hf 1 3 24 rfl Tryz.underlying3 cells3
  obtain ⟨n2, e2, _⟩ := field_int Tryz.underlying28 hf 2 3 25 rfl Tryz.underlying3 cells3
  have hall : ∀ i : Nat, ∃ z : Int, i < 26 → ca[i]? = some (.int .i64 z) := by
    intro i
    rcases Nat.lt_or_ge i 24 with h24 | h24
    · obtain ⟨z, hz, _⟩ := elem_int Tryz.underlying26 h0 i h24 Tryz.underlying3 cells3
      refine ⟨z, fun _ => ?_⟩
      have e : Tryz.prog.cellsOf 26 = 24 := cells26
      simp only [Value.cells] at hz
      rw [List.getElem?_take] at hz
      simpa [e, h24] using hz
    · by_cases h1 : i = 24
      · subst h1; exact ⟨n1, fun _ => by simpa [Value.cells] using e1⟩
      · exact ⟨n2, fun hi => by
          have : i = 25 := by omega
          subst this; simpa [Value.cells] using e2⟩
  have hz : ∃ z : Nat → Int, ∀ i, i < 26 → ca[i]? = some (.int .i64 (z i)) := ⟨fun i => (hall i).choose, fun i hi => (hall i).choose_spec hi⟩
  obtain ⟨z, hz⟩ := hz
  refine ⟨(List.range 26).map z, by simp, ?_⟩
  congr 1
  apply Array.ext_getElem?
  intro i
  rcases Nat.lt_or_ge i 26 with h | h
  · rw [hz i h]
    simp [memV, List.getElem?_range h]
  · rw [Array.getElem?_eq_none (by omega)]
    simp [memV, h]
open Go.ChangeShapes Go.WideShapes Go.ChangeAt in
theorem DialectResolves_opened {H : Type} {enc : TypeId × Value → H} (W : World) (base : Nat) (v0 v1 v2 : Value) {d0 d1 d2 : DataW H} {p0 p1 p2 : List MemPlace}
    (o0 : Value.okWide Tryz.prog W .any base 3 v0) (o1 : Value.okWide Tryz.prog W .any base 28 v1) (o2 : Value.okWide Tryz.prog W .any base 29 v2) (h0 : DataW.Trod enc Tryz.prog W 0 (fun _ => true) true 3 v0 d0 p0) (h1 : DataW.Trod enc Tryz.prog W 0 (fun _ => true) true 28 v1 d1 p1) (h2 : DataW.Trod enc Tryz.prog W 0 (fun _ => true) true 29 v2 d2 p2) :
    Calls Tryz.prog 4 #[v0, v1, v2] W fun e w' => e = .returned (.bool true) ∧ Below W.heap.size W w' := by
  obtain ⟨d, rfl, _⟩ := open_int Tryz.underlying3 o0 h0
  obtain ⟨M, hM, rfl⟩ := open_memory W base v1 d1 p1 o1 h1
  obtain ⟨A, n, cap, rfl, hc⟩ := open_cells W base v2 d2 p2 o2 h2
  exact res_law M hM d A n cap W hc
end Go.Proofs.YtkpielgdfahanaaGreat
