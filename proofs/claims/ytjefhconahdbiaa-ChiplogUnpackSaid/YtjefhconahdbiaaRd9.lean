/- The reference's command: one register differs; a command that is none. -/
import Derived.Test.YtjefhconahdbiaaRd8
namespace Go.Proofs.Ytjefhconahdbiaa
open Go.RowKit

theorem single_is (b : List Int) (at_ : Nat) (log : List (List Int)) (cyc x : List Int) (i : Nat) (hx : lastOf log = x) :
    IsR (singleS b at_ log cyc i) (nextS b at_ 0).2.1 (addS (wantS (nextS b at_ 0).2.2 ((nextS b at_ 0).1 != x.getD i 0)) log cyc (x.set i (nextS b at_ 0).1) 12).1
      (addS (wantS (nextS b at_ 0).2.2 ((nextS b at_ 0).1 != x.getD i 0)) log cyc (x.set i (nextS b at_ 0).1) 12).2.1
      (addS (wantS (nextS b at_ 0).2.2 ((nextS b at_ 0).1 != x.getD i 0)) log cyc (x.set i (nextS b at_ 0).1) 12).2.2 := by
  unfold singleS writeL nextS
  rw [hx, if_pos rfl]
  cases hb : b[at_]? with
  | none => simp [wantS, addS, IsR]
  | some v =>
    simp only
    by_cases he : v = x.getD i 0
    · rw [if_pos he]
      have : (v != x.getD i 0) = false := by simpa using he
      rw [this]
      simp [wantS, addS, IsR]
    · rw [if_neg he]
      have : (v != x.getD i 0) = true := by simpa using he
      rw [this]
      unfold wantS
      rw [if_pos rfl, if_pos rfl]
      unfold addS putS
      rw [if_pos rfl]
      simp only
      cases putL log cyc (x.set i v) 12 with
      | inl er => exact rfl
      | inr p => exact ⟨rfl, rfl⟩
theorem nextS_le {b : List Int} {at_ : Nat} {e : Int} (h : at_ ≤ b.length) : (nextS b at_ e).2.1 ≤ b.length := by
  unfold nextS
  split
  · split
    · rename_i v hv
      have := (List.getElem?_eq_some_iff.1 hv).1
      simp only; omega
    · exact h
  · exact h
theorem range_set {w : World} {n i : Nat} {x : List Int} {v : Int} {u : Value} (h : w.rangeAt n 0 (icells x)) (hc : w.cell? ⟨n, i, none⟩ = some u) : (w.setCell ⟨n, i, none⟩ (.int .i64 v)).rangeAt n 0 (icells (x.set i v)) := by
  intro j u' hj
  rw [Nat.zero_add]
  by_cases hji : j = i
  · subst hji
    have hl : j < x.length := by have := (List.getElem?_eq_some_iff.1 hj).1; rw [icells_len, List.length_set] at this; exact this
    have e : (icells (x.set j v))[j]? = some (.int .i64 v) := icells_at (List.getElem?_set_self hl)
    rw [e] at hj
    rw [← Option.some.inj hj]
    exact World.cell?_setCell_same _ _ _ hc
  · have hj' : (icells x)[j]? = some u' := by
      rw [← hj]
      simp only [icells, List.getElem?_map]
      rw [List.getElem?_set_ne (Ne.symm hji)]
    have h1 := h j u' hj'
    rw [Nat.zero_add] at h1
    rw [World.cell?_setCell_other _ _ _ _ (by intro e; injection e with _ e2; exact hji e2.symm)]
    exact h1
set_option maxHeartbeats 4000000 in
set_option maxRecDepth 100000 in
theorem refcmd_single (w : World) (r : Nat) (SA : Option Addr) (sc : Nat) (b : List Int) (at_ : Nat) (log : List (List Int)) (cyc : List Int) (vl vc : Value) (i : Nat) (h : RdV w r (.slice SA b.length sc) at_ log cyc vl vc 0) (hR : Reads w r SA b) (hat : at_ ≤ b.length) (hi : i < 14) :
    Calls Try.prog 86 #[.pointer (some ⟨r, 0, none⟩), .int .i64 ((128 + i : Nat) : Int)] w (CmdTo w r (.slice SA b.length sc) vl vc b (singleS b at_ log cyc i)) := by
  obtain ⟨A, ca, rfl, -, -⟩ := h.log
  have hc2 := cell_of_cells (k := 2) h.blk rfl
  have HKP : Hid (∀ w', Below w.heap.size w w' → w'.cell? ⟨r, 2, none⟩ = some (.slice A log.length ca)) := hid (fun w' hb => (hb.cell (World.block_lt_of_cell? w _ hc2)).trans hc2)
  have HH := hid h; have HR := hid hR
  have h4 := h.le4
  have hw1 : IntKind.i64.wrap ((log.length : Int) - 1) = (log.length : Int) - 1 := by rw [IntKind.wrap_i64]; omega
  have HPL := hid (prev_len h.len (Nat.le_refl log.length))
  obtain ⟨c, hc⟩ : ∃ c : Int, c = ((128 + i : Nat) : Int) := ⟨_, rfl⟩
  have hd : decide (c ≤ 127) = false := decide_eq_false (by omega)
  have hd2 : decide (c < 142) = true := decide_eq_true (by omega)
  have hw2 : IntKind.i64.wrap (c - 128) = (i : Int) := by rw [IntKind.wrap_i64]; omega
  have hs : c - 128 = (i : Int) := by omega
  have HLO : Hid (lastOf log = prev log log.length) := hid rfl
  rw [← hc]
  clear h hR hc
  go_enter Try.func86, Try.ntmps86
  go_wp2_with fail
  go_region_held3 (fun w' => w'.cell? ⟨r, 2, none⟩ = some (.slice A log.length ca) ∧ Below w.heap.size w w') (first | assumption | (exact ⟨HKP.out _ (Below.refl _ _).drew, (Below.refl _ _).drew⟩) | (obtain ⟨h1, h2⟩ := (by assumption : _ ∧ Below w.heap.size w _); exact ⟨HKP.out _ (Below.step h2 (by assumption)), Below.step h2 (by assumption)⟩))
    ((first
      | (go_at_call 71; go_loud (refine (rentry_any _ r _ at_ log cyc A ca vc 0 (HH.out.below (And.right (by assumption))) log.length (Nat.le_refl _)).mono ?_; rintro e w' ⟨g, c', rfl, hr, hn, hg, hb⟩))))
  have HB : Hid (Below w.heap.size w w') := hid (And.right (by assumption))
  obtain ⟨x, hx⟩ : ∃ x, x = prev log log.length := ⟨_, rfl⟩
  rw [← hx] at hr HPL HLO
  have HX := hid hr; have HN := hid hn
  have HT : Hid (RdV w' r (.slice SA b.length sc) at_ log cyc (.slice A log.length ca) vc 0) := hid (HH.out.below HB.out)
  have HON : Hid (Only (Own r (.slice A log.length ca) vc) w w') := hid (Only.ofBelow HB.out)
  have HR1 : Hid (Reads w' r SA b) := hid (HR.out.only HON.out HH.out.own_le)
  rename_i hheld
  clear hheld hx hr hn hg hb hw1 hc2 h4
  go_wp2_with fail
  refine (rnext_any _ r SA sc b at_ log cyc _ vc 0 HT.out HR1.out hat).mono ?_
  rintro en w2 ⟨rfl, ht2, ho2⟩
  have HIS := hid (single_is b at_ log cyc x i HLO.out)
  have HLE := hid (nextS_le (e := 0) hat)
  generalize nextS b at_ 0 = s at *
  obtain ⟨v, at2, e2⟩ := s
  simp only at ht2 HLE ⊢
  have HT2 := hid ht2; have HO2 : Hid (Only (Own r (.slice A log.length ca) vc) w w2) := hid (HON.out.trans ho2 (fun q hq => Or.inl (Or.inl hq)))
  have HX2 : Hid (w2.rangeAt g 0 (icells x)) := hid (range_only HX.out ho2 (fun h => HN.out (Or.inl h)))
  obtain ⟨y, hy⟩ : ∃ y, x[i]? = some y := ⟨_, List.getElem?_eq_getElem (by rw [HPL.out]; exact hi)⟩
  have hcy : w2.cell? ⟨g, i, none⟩ = some (.int .i64 y) := by have := HX2.out i _ (icells_at hy); rwa [Nat.zero_add] at this
  have hyg : x.getD i 0 = y := by rw [List.getD, hy]; rfl
  rw [hyg] at HIS
  have HY := hid hy
  have hi0 : (0 : Int) ≤ (i : Int) := by omega
  have hi1 : (i : Int) < 14 := by omega
  clear ht2 ho2 hy hyg
  obtain ⟨ok, hok⟩ : ∃ ok, (v != y) = ok := ⟨_, rfl⟩
  rw [hok] at HIS
  go_wp2_with fail
  refine (rwant_any w2 r _ at2 log cyc _ vc e2 ok HT2.out).mono ?_
  rintro en w3 ⟨rfl, ht3, ho3⟩
  have HT3 := hid ht3; have HO3 : Hid (Only (Own r (.slice A log.length ca) vc) w w3) := hid (HO2.out.trans ho3 (fun q hq => Or.inl (Or.inl hq)))
  have HX3 : Hid (w3.rangeAt g 0 (icells x)) := hid (range_only HX2.out ho3 (fun h => HN.out (Or.inl h)))
  have HB3 := hid (HT3.out.own_ge)
  clear ht3 ho3 hok hcy
  go_wp2_with fail
  refine (Try.slices_Clone_int g 0 14 _ x w3 (by rw [HPL.out]; exact Nat.le_refl _) (by omega) (range_cells HX3.out)).mono ?_
  rintro en w4 ⟨v', rfl, ho, -, hb4⟩
  obtain ⟨A3, c3, rfl, hA3⟩ := owned_form ho
  obtain ⟨n, rfl, hge, hlt⟩ := hA3 (by omega)
  have HRN : Hid (w4.rangeAt n 0 (icells x)) := hid (by have h1 := own_range ho; rwa [List.take_of_length_le (by rw [HPL.out]; exact Nat.le_refl _)] at h1)
  have hfn : w4.frozen? ⟨n, i, none⟩ = false := ho.frozenAt i
  have hcn : w4.cell? ⟨n, i, none⟩ = some (.int .i64 y) := by have := HRN.out i _ (icells_at HY.out); rwa [Nat.zero_add] at this
  have HNG := hid hge; have HB4 := hid hb4
  clear ho hA3 hge hlt hb4
  go_wp2_with fail
  have HRX : Hid ((w4.setCell ⟨n, i, none⟩ (.int .i64 v)).rangeAt n 0 (icells (x.set i v))) := hid (range_set HRN.out hcn)
  have HO5 : Hid (Only (fun q => q = r) w3 (w4.setCell ⟨n, i, none⟩ (.int .i64 v))) := hid ((Only.ofBelow HB4.out).set _ (Or.inr HNG.out))
  have HT5 : Hid (RdV (w4.setCell ⟨n, i, none⟩ (.int .i64 v)) r (.slice SA b.length sc) at2 log cyc (.slice A log.length ca) vc (wantS e2 ok)) := hid (HT3.out.far HO5.out (by
    rw [heap_setCell_other w4 ⟨n, i, none⟩ r _ (by have := HT3.out.lt; have := HNG.out; simp; omega), HB4.out.block r HT3.out.lt]
    exact HT3.out.blk))
  have HO5' : Hid (Only (Own r (.slice A log.length ca) vc) w (w4.setCell ⟨n, i, none⟩ (.int .i64 v))) := hid (HO3.out.trans HO5.out (fun q hq => Or.inl (Or.inl hq)))
  refine (radd_any _ r _ at2 log cyc _ vc (wantS e2 ok) n 0 _ (x.set i v) 12 HT5.out HRX.out (by rw [List.length_set]; exact HPL.out)).mono ?_
  rintro en w6 ⟨rfl, vl', vc', ht6, ho6, hw6⟩
  have HT6 := hid ht6; have HO6 := hid ho6; have HW6 := hid hw6
  clear ht6 ho6 hw6 hfn hcn
  go_wp2
  go_end0
  refine ⟨rfl, at2, _, _, vl', vc', _, HT6.out, HLE.out, HIS.out, HO5'.out.trans HO6.out (fun q hq => Or.inl hq), fun q hq => (HW6.out q hq).imp id (fun h => by have := HO5'.out.size; omega)⟩
end Go.Proofs.Ytjefhconahdbiaa
