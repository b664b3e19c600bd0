/- MixFinish: the argument opened, and the law joined from its two contracts. -/
import Derived.Test.YtjefhconahdbiaaFinish
namespace Go.Proofs.Ytjefhconahdbiaa
open Go.RowKit

/-- The cells of the law's argument. -/
def endcells (A : Option Addr) (n c : Nat) (rate interp sep amp bits : Int) (dith : Bool) (s : Int) : List Value :=
  [.slice A n c, .int .i64 rate, .int .i64 interp, .int .i64 sep, .int .i64 amp, .int .i64 bits, .bool dith, .int .i64 s]
theorem finish_both (A : Option Addr) (xs : List (Int × Int)) (c : Nat) (rate interp sep amp bits : Int) (dith : Bool) (s : Int) (w : World) (hx : FramesAt w A xs) (hn : xs.length ≤ 200000) : ∃ (fs : List (Int × Int)) (sd er : Int),
    (fs.length ≤ 200000) ∧
    (∀ w1, Below w.heap.size w w1 → Calls Try.prog 28 #[.slice A xs.length c, .agg (ocells rate interp sep amp bits dith).toArray, .int .i64 s] w1 fun e w' =>
      ∃ A c, e = .returned (.tuple #[.slice A fs.length c, .int .i64 sd, .int .i64 er]) ∧ FramesAt w' A fs ∧ Below w1.heap.size w1 w') ∧
    (∀ w1, Below w.heap.size w w1 → Calls Try.prog 29 #[.slice A xs.length c, .agg (ocells rate interp sep amp bits dith).toArray, .int .i64 s] w1 fun e w' =>
      ∃ A c, e = .returned (.tuple #[.slice A fs.length c, .int .i64 sd, .int .i64 er]) ∧ FramesAt w' A fs ∧ Below w1.heap.size w1 w') := by
  refine ⟨(finR rate interp sep amp bits dith xs s).1, _, _, ?_, fun _ hb => finish_any A xs c rate interp sep amp bits dith s _ (hx.below hb) hn, fun _ hb => reffinish_any A xs c rate interp sep amp bits dith s _ (hx.below hb) hn⟩
  unfold finR
  split
  · simp
  · split
    · simp
    · simp only [finTo_len]; exact hn

set_option maxHeartbeats 4000000 in
set_option maxRecDepth 100000 in
theorem finish_law (A : Option Addr) (xs : List (Int × Int)) (c : Nat) (rate interp sep amp bits : Int) (dith : Bool) (s : Int) (w : World) (hx : FramesAt w A xs) :
    Calls Try.prog 10 #[.agg (endcells A xs.length c rate interp sep amp bits dith s).toArray] w fun e w' => e = .returned (.bool true) ∧ Below w.heap.size w w' := by
  have HX := hid hx; clear hx
  have HR1 : Hid ((w.alloc (.cells (endcells A xs.length c rate interp sep amp bits dith s).toArray 51)).rangeAt w.heap.size 0 (endcells A xs.length c rate interp sep amp bits dith s)) := hid (by
    have := range_made w (endcells A xs.length c rate interp sep amp bits dith s).toArray 51
    simpa using this)
  have HB1 := hid (Below.grow (Below.refl w.heap.size w) (.cells (endcells A xs.length c rate interp sep amp bits dith s).toArray 51))
  have hs1' : w.heap.size < (w.alloc (.cells (endcells A xs.length c rate interp sep amp bits dith s).toArray 51)).heap.size := by simp
  have c0 := HR1.out 0 _ rfl; have c1 := HR1.out 1 _ rfl; have c2 := HR1.out 2 _ rfl; have c3 := HR1.out 3 _ rfl; have c4 := HR1.out 4 _ rfl; have c5 := HR1.out 5 _ rfl; have c6 := HR1.out 6 _ rfl; have c7 := HR1.out 7 _ rfl
  simp only [Nat.zero_add] at c0 c1 c2 c3 c4 c5 c6 c7
  by_cases hl : 2000 < xs.length
  · have hl' : decide (2000 < (xs.length : Int)) = true := decide_eq_true (by omega)
    clear hl c1 c2 c3 c4 c5 c6 c7
    go_enter Try.func10, Try.ntmps10
    go_wp2
    go_ret
    exact ⟨rfl, HB1.out⟩
  · have hl' : decide (2000 < (xs.length : Int)) = false := decide_eq_false (by omega)
    obtain ⟨fs, sd, er, hfl, h1, h2⟩ := finish_both A xs c rate interp sep amp bits dith s w HX.out (by omega)
    have H1 := hid h1; have H2 := hid h2; have HFL := hid hfl; clear h1 h2 hfl
    have hsd : (sd == sd) = true := by simp
    have her : (er == er) = true := by simp
    go_enter Try.func10, Try.ntmps10
    go_wp2_with fail
    refine (H1.out _ HB1.out).mono ?_
    rintro e w2 ⟨A1, c1', rfl, hf1, hb⟩
    have HB2 := hid (Below.step HB1.out hb)
    have HR2 := hid (rangeAt_below HR1.out hb)
    have d0 := HR2.out 0 _ rfl; have d1 := HR2.out 1 _ rfl; have d2 := HR2.out 2 _ rfl; have d3 := HR2.out 3 _ rfl; have d4 := HR2.out 4 _ rfl; have d5 := HR2.out 5 _ rfl; have d6 := HR2.out 6 _ rfl; have d7 := HR2.out 7 _ rfl
    simp only [Nat.zero_add] at d0 d1 d2 d3 d4 d5 d6 d7
    have HF1 := hid hf1
    clear hb hf1 c0 c1 c2 c3 c4 c5 c6 c7
    go_wp2_with fail
    refine (H2.out _ HB2.out).mono ?_
    rintro e w3 ⟨A2, c2', rfl, hf2, hb⟩
    have HF1' := hid (HF1.out.below hb)
    have HF2 := hid hf2
    have HB3 := hid (Below.step HB2.out hb)
    clear hb hf2
    go_wp2_with fail
    refine (equal_same A1 A2 fs c1' c2' _ HF1'.out HF2.out (by have := HFL.out; omega)).mono ?_
    rintro e w4 ⟨rfl, hb⟩
    have HB4 := hid (Below.step HB3.out hb); clear hb
    go_wp2
    go_ret
    exact ⟨rfl, HB4.out⟩
theorem cells51 : Try.prog.cellsOf 51 = 8 := by kernel_rfl
theorem cells49 : Try.prog.cellsOf 49 = 6 := by kernel_rfl
theorem cells40 : Try.prog.cellsOf 40 = 1 := by kernel_rfl

open Go.ChangeShapes Go.WideShapes Go.ChangeAt in
set_option maxRecDepth 100000 in
theorem frames_of_trod {H : Type} {enc : TypeId × Value → H} {W : World} {fuel : Nat} {cs0 : List Value} {x : DataW H × List MemPlace} (hf : DataW.trod enc Try.prog W 0 (fun _ => true) true fuel 40 cs0 = some x) :
    ∃ A xs c, cs0 = [.slice A (List.length xs) c] ∧ FramesAt W A xs := by
  rcases Go.Deep.open_slice Try.underlying40 hf with ⟨hcs, _⟩ | ⟨a, len, c, m, n, D, Pl, hcs, _, hl, hm, hmm, _, hx⟩
  · exact ⟨none, [], 0, hcs, fun i hi => by simp at hi⟩
  · have key : ∀ i, i < len → ∃ b off x y, a = ⟨b, off, none⟩ ∧ W.cell? ⟨b, off + i * 2, none⟩ = some (.int .i64 x) ∧ W.cell? ⟨b, off + i * 2 + 1, none⟩ = some (.int .i64 y) := by
      have one : ∀ i, i < len → ∃ x y, W.cell? (a.add (i * 2)) = some (.int .i64 x) ∧ W.cell? ((a.add (i * 2)).add 1) = some (.int .i64 y) := by
        intro i hi
        obtain ⟨cs', h1, h2⟩ := hx i (by rw [hmm]; simp; omega)
        rw [cells45] at h1
        obtain ⟨_, hlen, hc⟩ := World.cells?_some h1
        obtain ⟨n0, e0, _⟩ := field_int Try.underlying45 h2 0 3 0 rfl Try.underlying3 cells3
        obtain ⟨n1, e1, _⟩ := field_int Try.underlying45 h2 1 3 1 rfl Try.underlying3 cells3
        exact ⟨n0, n1, (hc 0 (by omega)).trans e0, (hc 1 (by omega)).trans e1⟩
      intro i hi
      obtain ⟨_, _, z, _⟩ := one 0 (by omega)
      have hs : a.spot = none := cell_spot (by simpa [Addr.add] using z)
      obtain ⟨x, y, g0, g1⟩ := one i hi
      rw [add_at _ hs] at g0 g1
      rw [add_at _ rfl] at g1
      exact ⟨a.block, a.off, x, y, by cases a; simp_all, g0, g1⟩
    obtain ⟨f, hf'⟩ := Go.Deep.choose_lt (p := fun i (x : Int × Int) => ∃ b off, a = ⟨b, off, none⟩ ∧ W.cell? ⟨b, off + i * 2, none⟩ = some (.int .i64 x.1) ∧ W.cell? ⟨b, off + i * 2 + 1, none⟩ = some (.int .i64 x.2)) (fun i hi => by
      obtain ⟨b, off, x, y, h⟩ := key i hi
      exact ⟨(x, y), b, off, h⟩)
    refine ⟨some a, (List.range len).map f, c, by simpa using hcs, fun i hi => ?_⟩
    simp at hi
    obtain ⟨b, off, rfl, h1, h2⟩ := hf' i hi
    exact ⟨b, off, (f i).1, (f i).2, rfl, by simp [hi], h1, h2⟩

open Go.ChangeShapes Go.WideShapes Go.ChangeAt in
set_option maxRecDepth 100000 in
theorem open_end {H : Type} {enc : TypeId × Value → H} (W : World) (base : Nat) (v : Value) (d : DataW H) (p : List MemPlace)
    (ho : Value.okWide Try.prog W .any base 51 v) (h : DataW.Trod enc Try.prog W 0 (fun _ => true) true 51 v d p) :
    ∃ A xs c rate interp sep amp bits dith s, v = .agg (endcells A (List.length xs) c rate interp sep amp bits dith s).toArray ∧ FramesAt W A xs := by
  obtain ⟨ca, rfl, hsz⟩ := okWide_struct Try.underlying51 ho
  rw [cells51] at hsz
  obtain ⟨fuel, hf⟩ := h
  obtain ⟨xs0, n, rfl, _, hl, hxl, hx⟩ := DataW.trod_struct Try.underlying51 hf
  have hxl' : xs0.length = 3 := hxl
  have f0 := hx 0 _ rfl
  have f1 := hx 1 _ rfl
  rw [List.getElem?_eq_getElem (by omega)] at f0 f1
  obtain ⟨A, xs, c, hA, hfr⟩ := frames_of_trod f0
  obtain ⟨s, es, _⟩ := field_int Try.underlying51 hf 2 3 7 rfl Try.underlying3 cells3
  obtain ⟨n0, e0, _⟩ := field_int Try.underlying49 f1 0 3 0 rfl Try.underlying3 cells3
  obtain ⟨n1, e1, _⟩ := field_int Try.underlying49 f1 1 3 1 rfl Try.underlying3 cells3
  obtain ⟨n2, e2, _⟩ := field_int Try.underlying49 f1 2 3 2 rfl Try.underlying3 cells3
  obtain ⟨n3, e3, _⟩ := field_int Try.underlying49 f1 3 3 3 rfl Try.underlying3 cells3
  obtain ⟨n4, e4, _⟩ := field_int Try.underlying49 f1 4 3 4 rfl Try.underlying3 cells3
  obtain ⟨n5, e5⟩ := field_bool Try.underlying49 f1 5 4 5 rfl Try.underlying4 cells4
  refine ⟨A, xs, c, n0, n1, n2, n3, n4, n5, s, ?_, hfr⟩
  obtain ⟨l, rfl⟩ : ∃ l : List Value, ca = l.toArray := ⟨ca.toList, by simp⟩
  match l, hsz with
  | [y0, y1, y2, y3, y4, y5, y6, y7], _ =>
    simp [Value.cells, cells40, cells49] at hA es e0 e1 e2 e3 e4 e5
    subst hA es e0 e1 e2 e3 e4 e5
    rfl

open Go.ChangeShapes Go.WideShapes Go.ChangeAt in
set_option maxRecDepth 100000 in
theorem MixFinish_opened {H : Type} {enc : TypeId × Value → H} (W : World) (base : Nat) (v0 : Value) {d0 : DataW H} {p0 : List MemPlace}
    (o0 : Value.okWide Try.prog W .any base 51 v0) (h0 : DataW.Trod enc Try.prog W 0 (fun _ => true) true 51 v0 d0 p0) :
    Calls Try.prog 10 #[v0] W fun e w' => e = .returned (.bool true) ∧ Below W.heap.size W w' := by
  obtain ⟨A, xs, c, rate, interp, sep, amp, bits, dith, s, rfl, hx⟩ := open_end W base v0 d0 p0 o0 h0
  exact finish_law A xs c rate interp sep amp bits dith s W hx
end Go.Proofs.Ytjefhconahdbiaa
