/- chiplog.Cycles: the cycles of each entry of packed bytes. -/
import Derived.Test.YtjefhconahdbiaaUnpack
namespace Go.Proofs.Ytjefhconahdbiaa
open Go.RowKit

/-- The last entry's cycles are 4 more; no entry: 4 alone. -/
def cycEnd (cyc : List Int) : List Int := if cyc.length = 0 then [4] else cyc.set (cyc.length - 1) (IntKind.i64.wrap (cyc.getD (cyc.length - 1) 0 + 4))
def CyclesTo (w : World) (r : Rd (List (List Int) × List Int × Nat)) (e : Ending) (w' : World) : Prop :=
  match r with
  | .inl er => e = .returned (.tuple #[.slice none 0 0, .int .i64 er]) ∧ Below w.heap.size w w'
  | .inr s => ∃ B c, e = .returned (.tuple #[.slice B (cycEnd s.2.1).length c, .int .i64 0]) ∧ IntsAt w' B (cycEnd s.2.1) ∧ Below w.heap.size w w'
set_option maxHeartbeats 4000000 in
set_option maxRecDepth 100000 in
theorem cycles_any (w : World) (A : Option Addr) (cc : Nat) (b : List Int) (hA : BytesAt w A b) (hs : ∀ p o, A = some ⟨p, o, none⟩ → p < w.heap.size) (hr : ∀ v ∈ b, 0 ≤ v ∧ v < 256) :
    Calls Try.prog 36 #[.slice A b.length cc] w (CyclesTo w (readAll b)) := by
  have HRD := hid (read_any w A cc b hA hs hr)
  clear hA hs hr
  go_enter Try.func36, Try.ntmps36
  go_wp2_with fail
  refine HRD.out.mono ?_
  intro e w1 hto
  cases hp : readAll b with
  | inl er =>
    have hne := readAll_ne hp
    rw [hp] at hto
    obtain ⟨p, rfl, hb⟩ := hto
    have hne' : (er != 0) = true := by simpa using hne
    have HB := hid hb
    have HR := hid hp
    clear hb hp hne HRD
    go_wp2
    refine bodyPost_ret (results_tmp2 rfl _ _ _) rfl ?_
    unfold CyclesTo
    rw [HR.out]
    exact ⟨rfl, HB.out⟩
  | inr s =>
    obtain ⟨log, cyc, at_⟩ := s
    rw [hp] at hto
    obtain ⟨t, vl, vc, rfl, ht, hT, hb⟩ := hto
    simp only at hT
    have hown := hT.ownC
    obtain ⟨CA, ec, rfl, hC⟩ := owned_form hown
    have hc3 := cell_of_cells (k := 3) hT.blk rfl
    have HB := hid hb; have HT := hid hT; have HO := hid hown; have HC := hid hC
    have hl4 : cyc.length ≤ 4000 := by have := hT.le4; have := hT.eqv; omega
    have HR := hid hp
    clear hb hT HRD hp hown hC
    by_cases h0 : cyc.length = 0
    · have HCE : Hid (cycEnd cyc = [4]) := hid (by unfold cycEnd; rw [if_pos h0])
      rw [h0] at hc3
      clear hl4
      go_wp2
      refine bodyPost_ret (results_tmp2 rfl _ _ _) rfl ?_
      unfold CyclesTo
      rw [HR.out]
      simp only
      rw [HCE.out]
      exact ⟨some ⟨w1.heap.size, 0, none⟩, 1, rfl, fun _ => ⟨_, 0, rfl, range_made w1 #[.int .i64 4] 3⟩, Below.grow HB.out _⟩
    · obtain ⟨g, rfl, hge, hlt⟩ := HC.out (by omega)
      have hne : ((cyc.length : Int) == 0) = false := by rw [beq_eq_false_iff_ne]; omega
      obtain ⟨m, hm⟩ : ∃ m : Nat, m = cyc.length - 1 := ⟨_, rfl⟩
      obtain ⟨y, hy⟩ : ∃ y, cyc[m]? = some y := ⟨_, List.getElem?_eq_getElem (by omega)⟩
      have hrg := own_range HO.out
      have hcy : w1.cell? ⟨g, m, none⟩ = some (.int .i64 y) := by have := hrg m _ (icells_at hy); rwa [Nat.zero_add] at this
      have hfy : w1.frozen? ⟨g, m, none⟩ = false := HO.out.frozenAt m
      have hwm : IntKind.i64.wrap ((cyc.length : Int) - 1) = (m : Int) := by rw [IntKind.wrap_i64]; omega
      have hm0 : (0 : Int) ≤ (m : Int) := by omega
      have hml : (m : Int) < (cyc.length : Int) := by omega
      have hgt : ¬ g = t := by omega
      have HCE : Hid (cycEnd cyc = cyc.set m (IntKind.i64.wrap (y + 4))) := hid (by unfold cycEnd; rw [if_neg h0, ← hm, List.getD, hy]; rfl)
      have HRG := hid hrg; have HY := hid hy; have HM := hid hm
      clear hrg hy hm
      go_wp2_with fail
      refine wp_region_still_tail 14 (by kernel_rfl) (by kernel_rfl) ?_
      simp only [List.take_succ_cons, List.take_zero, List.drop_succ_cons, List.drop_zero]
      have hc3' : w1.drew.cell? ⟨t, 3, none⟩ = some (.slice (some ⟨g, 0, none⟩) cyc.length ec) := hc3
      have hcy' : w1.drew.cell? ⟨g, m, none⟩ = some (.int .i64 y) := hcy
      have hfy' : w1.drew.frozen? ⟨g, m, none⟩ = false := hfy
      have HRG' : Hid (w1.drew.rangeAt g 0 (icells cyc)) := HRG
      have HBD : Hid (Below w.heap.size w w1.drew) := hid HB.out.drew
      obtain ⟨wd, hwd⟩ : ∃ z, z = w1.drew := ⟨_, rfl⟩
      have hww : ({ w1 with drawn := w1.drawn + 1 } : World) = wd := hwd.symm
      rw [hww]
      rw [← hwd] at hc3' hcy' hfy' HRG' HBD
      clear hww hwd hc3 hcy hfy HRG HT HO HC
      repeat still_step
      refine wpStill_nil ?_
      go_wp2_with fail
      refine bodyPost_ret (results_tmp2 rfl _ _ _) rfl ?_
      unfold CyclesTo
      rw [HR.out]
      have hwr : wrap64 (y + 4) = IntKind.i64.wrap (y + 4) := by rw [IntKind.wrap_i64]; unfold wrap64; omega
      rw [hwr]
      simp only
      rw [HCE.out]
      refine ⟨some ⟨g, 0, none⟩, ec, by rw [List.length_set]; rfl, fun _ => ⟨g, 0, rfl, fun j v hj => ?_⟩, Only.below HBD.out ((Only.refl (fun q => q = g) wd).set _ (Or.inl rfl)) (fun q hq => by omega) HBD.out.size⟩
      rw [Nat.zero_add]
      by_cases hjm : j = m
      · subst hjm
        have hv : v = .int .i64 (IntKind.i64.wrap (y + 4)) := by
          have hm := (List.getElem?_eq_some_iff.1 HY.out).1
          have e : (icells (cyc.set j (IntKind.i64.wrap (y + 4))))[j]? = some (.int .i64 (IntKind.i64.wrap (y + 4))) := icells_at (List.getElem?_set_self hm)
          rw [e] at hj
          exact (Option.some.inj hj).symm
        rw [hv]
        exact World.cell?_setCell_same _ _ _ hcy'
      · have hj' : (icells cyc)[j]? = some v := by
          rw [← hj]
          simp only [icells, List.getElem?_map]
          rw [List.getElem?_set_ne (Ne.symm hjm)]
        have h1 := HRG'.out j v hj'
        rw [Nat.zero_add] at h1
        rw [World.cell?_setCell_other _ _ _ _ (by intro e; injection e with _ e2; exact hjm e2.symm)]
        exact h1
end Go.Proofs.Ytjefhconahdbiaa
