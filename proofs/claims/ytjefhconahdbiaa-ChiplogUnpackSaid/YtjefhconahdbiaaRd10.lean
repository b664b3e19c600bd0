/- The reference's command: a number that is no command; entries that come again. -/
import Derived.Test.YtjefhconahdbiaaRd9
import Derived.StillTailTactics
namespace Go.Proofs.Ytjefhconahdbiaa
open Go.RowKit

set_option maxHeartbeats 4000000 in
set_option maxRecDepth 100000 in
theorem refcmd_no (w : World) (r : Nat) (sb : Value) (b : List Int) (at_ : Nat) (log : List (List Int)) (cyc : List Int) (vl vc : Value) (c : Nat) (h : RdV w r sb at_ log cyc vl vc 0) (hat : at_ ≤ b.length) (hc : 142 ≤ c) (hc' : c ≤ 191) :
    Calls Try.prog 86 #[.pointer (some ⟨r, 0, none⟩), .int .i64 c] w (CmdTo w r sb vl vc b (.inl 9)) := by
  obtain ⟨A, ca, rfl, -, -⟩ := h.log
  have hc2 := cell_of_cells (k := 2) h.blk rfl
  have HKP : Hid (∀ w', Below w.heap.size w w' → w'.cell? ⟨r, 2, none⟩ = some (.slice A log.length ca)) := hid (fun w' hb => (hb.cell (World.block_lt_of_cell? w _ hc2)).trans hc2)
  have HH := hid h
  have h4 := h.le4
  have hw1 : IntKind.i64.wrap ((log.length : Int) - 1) = (log.length : Int) - 1 := by rw [IntKind.wrap_i64]; omega
  have hd : decide ((c : Int) ≤ 127) = false := decide_eq_false (by omega)
  have hd2 : decide ((c : Int) < 142) = false := decide_eq_false (by omega)
  have hd3 : decide ((c : Int) < 192) = true := decide_eq_true (by omega)
  clear h hc hc'
  go_enter Try.func86, Try.ntmps86
  go_wp2_with fail
  go_region_held3 (fun w' => w'.cell? ⟨r, 2, none⟩ = some (.slice A log.length ca) ∧ Below w.heap.size w w') (first | assumption | (exact ⟨HKP.out _ (Below.refl _ _).drew, (Below.refl _ _).drew⟩) | (obtain ⟨h1, h2⟩ := (by assumption : _ ∧ Below w.heap.size w _); exact ⟨HKP.out _ (Below.step h2 (by assumption)), Below.step h2 (by assumption)⟩))
    ((first
      | (go_at_call 71; go_loud (refine (rentry_any _ r sb at_ log cyc A ca vc 0 (HH.out.below (And.right (by assumption))) log.length (Nat.le_refl _)).mono ?_; rintro e w' ⟨g, c', rfl, hr, hn, hg, hb⟩))))
  have HB : Hid (Below w.heap.size w w') := hid (And.right (by assumption))
  have HT : Hid (RdV w' r sb at_ log cyc (.slice A log.length ca) vc 0) := hid (HH.out.below HB.out)
  have HON : Hid (Only (Own r (.slice A log.length ca) vc) w w') := hid (Only.ofBelow HB.out)
  rename_i hheld
  clear hheld hr hn hg hb hw1 hc2 h4
  go_wp2_with fail
  refine (rwant_any w' r _ at_ log cyc _ vc 0 false HT.out).mono ?_
  rintro en w3 ⟨rfl, ht3, ho3⟩
  have HT3 := hid ht3; have HO3 := hid ho3
  clear ht3 ho3
  go_wp2
  go_end0
  exact ⟨rfl, at_, log, cyc, _, vc, _, HT3.out, hat, rfl, HON.out.trans HO3.out (fun q hq => Or.inl (Or.inl hq)), fun q hq => Or.inl hq⟩
/-- Where a repeat has come to: k entries more, or an error. -/
def RepS (d k : Nat) (cost : Int) (l : List (List Int)) (c : List Int) (e : Int) (res : Rd (List (List Int) × List Int)) : Prop := (e = 0 ∧ repsL d k cost l c = res) ∨ (e ≠ 0 ∧ res = .inl e)
theorem repS_step {d k : Nat} {cost : Int} {z : List Int} {l : List (List Int)} {c : List Int} {res : Rd (List (List Int) × List Int)} (h : RepS d (k + 1) cost l c 0 res) (hz : l[l.length - d]? = some z) : RepS d k 10 (addS 0 l c z cost).1 (addS 0 l c z cost).2.1 (addS 0 l c z cost).2.2 res := by
  rcases h with ⟨_, h⟩ | ⟨he, _⟩
  · unfold addS
    rw [if_pos rfl]
    rw [repsL, List.getD, hz] at h
    simp only [Option.getD_some] at h
    cases hp : putL l c z cost with
    | inl er =>
      rw [hp] at h
      exact Or.inr ⟨putL_ne hp, h.symm⟩
    | inr p =>
      rw [hp] at h
      exact Or.inl ⟨rfl, h⟩
  · exact absurd rfl he
theorem addS_len (e : Int) (l : List (List Int)) (c z : List Int) (cost : Int) : l.length ≤ (addS e l c z cost).1.length := by
  unfold addS putL
  by_cases he : e = 0
  · rw [if_pos he]
    by_cases hl : l.length = 4000
    · rw [if_pos hl]; exact Nat.le_refl _
    · rw [if_neg hl]; simp
  · rw [if_neg he]; exact Nat.le_refl _
theorem rep_bad {b : List Int} {at_ : Nat} {log : List (List Int)} {cyc : List Int} {c : Int} (h : ¬ (1 ≤ (nextS b at_ 0).1 ∧ (nextS b at_ 0).1 ≤ (log.length : Int))) (hr : ∀ v ∈ b, 0 ≤ v ∧ v < 256) : repeatS b at_ log cyc c = .inl (wantS (nextS b at_ 0).2.2 false) ∧ wantS (nextS b at_ 0).2.2 false ≠ 0 := by
  unfold repeatS nextS at *
  rw [if_pos rfl] at *
  cases hb : b[at_]? with
  | none => simp [wantS]
  | some v =>
    rw [hb] at h
    simp only at h ⊢
    have := hr v (List.mem_of_getElem? hb)
    rw [if_pos (by omega)]
    simp [wantS]
theorem rep_good {b : List Int} {at_ : Nat} {log : List (List Int)} {cyc : List Int} {c : Int} (h : 1 ≤ (nextS b at_ 0).1 ∧ (nextS b at_ 0).1 ≤ (log.length : Int)) : (nextS b at_ 0).2.2 = 0 ∧ ∃ d : Nat, (nextS b at_ 0).1 = (d : Int) ∧ 1 ≤ d ∧ d ≤ log.length ∧ repeatS b at_ log cyc c = atS (nextS b at_ 0).2.1 (repsL d (c - 191).toNat 18 log cyc) := by
  unfold repeatS nextS at *
  rw [if_pos rfl] at *
  cases hb : b[at_]? with
  | none => rw [hb] at h; simp at h
  | some v =>
    rw [hb] at h
    simp only at h ⊢
    refine ⟨by first | rfl | trivial, v.toNat, by omega, by omega, by omega, ?_⟩
    rw [if_neg (by omega)]
/-- The loop of a repeat. -/
theorem repS_start {d k : Nat} {l : List (List Int)} {c : List Int} : RepS d k 18 l c 0 (repsL d k 18 l c) := Or.inl ⟨rfl, rfl⟩
set_option maxHeartbeats 8000000 in
set_option maxRecDepth 100000 in
theorem refcmd_rep (w : World) (r : Nat) (SA : Option Addr) (sc : Nat) (b : List Int) (at_ : Nat) (log : List (List Int)) (cyc : List Int) (vl vc : Value) (c : Nat) (h : RdV w r (.slice SA b.length sc) at_ log cyc vl vc 0) (hR : Reads w r SA b) (hat : at_ ≤ b.length) (hc : 193 ≤ c) (hc' : c ≤ 255) :
    Calls Try.prog 86 #[.pointer (some ⟨r, 0, none⟩), .int .i64 (c : Int)] w (CmdTo w r (.slice SA b.length sc) vl vc b (repeatS b at_ log cyc c)) := by
  obtain ⟨A, ca, rfl, -, -⟩ := h.log
  have hc2 := cell_of_cells (k := 2) h.blk rfl
  have HKP : Hid (∀ w', Below w.heap.size w w' → w'.cell? ⟨r, 2, none⟩ = some (.slice A log.length ca)) := hid (fun w' hb => (hb.cell (World.block_lt_of_cell? w _ hc2)).trans hc2)
  have HH := hid h; have HR := hid hR
  have h4 := h.le4
  have hw1 : IntKind.i64.wrap ((log.length : Int) - 1) = (log.length : Int) - 1 := by rw [IntKind.wrap_i64]; omega
  have hd : decide ((c : Int) ≤ 127) = false := decide_eq_false (by omega)
  have hd2 : decide ((c : Int) < 142) = false := decide_eq_false (by omega)
  have hd3 : decide ((c : Int) < 192) = false := decide_eq_false (by omega)
  have hd4 : ((c : Int) == 192) = false := by rw [beq_eq_false_iff_ne]; omega
  have HB' := hid (rep_bad (b := b) (at_ := at_) (log := log) (cyc := cyc) (c := (c : Int)) · hR.rng)
  have HG' := hid (fun h => rep_good (b := b) (at_ := at_) (log := log) (cyc := cyc) (c := (c : Int)) h)
  have HLE := hid (nextS_le (e := 0) hat)
  obtain ⟨m, hm⟩ : ∃ m : Nat, m = c - 191 := ⟨_, rfl⟩
  have hm1 : 1 ≤ m := by omega
  have hm6 : m ≤ 64 := by omega
  have hcm : (c : Int) - 191 = (m : Int) := by omega
  have HCM := hid hcm
  clear h hR hm hcm
  go_enter Try.func86, Try.ntmps86
  go_wp2_with fail
  go_region_held3 (fun w' => w'.cell? ⟨r, 2, none⟩ = some (.slice A log.length ca) ∧ Below w.heap.size w w') (first | assumption | (exact ⟨HKP.out _ (Below.refl _ _).drew, (Below.refl _ _).drew⟩) | (obtain ⟨h1, h2⟩ := (by assumption : _ ∧ Below w.heap.size w _); exact ⟨HKP.out _ (Below.step h2 (by assumption)), Below.step h2 (by assumption)⟩))
    ((first
      | (go_at_call 71; go_loud (refine (rentry_any _ r _ at_ log cyc A ca vc 0 (HH.out.below (And.right (by assumption))) log.length (Nat.le_refl _)).mono ?_; rintro e w' ⟨g, c', rfl, hr, hn, hg, hb⟩))))
  have HB : Hid (Below w.heap.size w w') := hid (And.right (by assumption))
  have HT : Hid (RdV w' r (.slice SA b.length sc) at_ log cyc (.slice A log.length ca) vc 0) := hid (HH.out.below HB.out)
  have HON : Hid (Only (Own r (.slice A log.length ca) vc) w w') := hid (Only.ofBelow HB.out)
  have HR1 : Hid (Reads w' r SA b) := hid (HR.out.only HON.out HH.out.own_le)
  rename_i hheld
  clear hheld hr hn hg hb hw1 hc2
  go_wp2_with fail
  refine (rnext_any _ r SA sc b at_ log cyc _ vc 0 HT.out HR1.out hat).mono ?_
  rintro en w2 ⟨rfl, ht2, ho2⟩
  generalize nextS b at_ 0 = s at *
  obtain ⟨v, at2, e2⟩ := s
  simp only at ht2 HLE HB' HG' ⊢
  have HT2 := hid ht2; have HO2 : Hid (Only (Own r (.slice A log.length ca) vc) w w2) := hid (HON.out.trans ho2 (fun q hq => Or.inl (Or.inl hq)))
  have hc2 := cell_of_cells (k := 2) ht2.blk rfl
  clear ht2 ho2
  by_cases hv1 : 1 ≤ v
  · by_cases hv2 : v ≤ (log.length : Int)
    · obtain ⟨he2, d, rfl, hd1, hdl, hres⟩ := HG'.out ⟨hv1, hv2⟩
      subst he2
      have hv2' : decide (d ≤ log.length) = true := decide_eq_true hdl
      have hv1' : decide ((1 : Int) ≤ (d : Int)) = true := decide_eq_true (by omega)
      rw [HCM.out, Int.toNat_natCast] at hres
      have HRES := hid hres; have HD1 := hid hd1; have HDL := hid hdl
      clear hres HB' HG' hv1 hv2 hd1 hdl
      go_wp2_with fail
      refine (rwant_any w2 r _ at2 log cyc _ vc 0 true HT2.out).mono ?_
      rintro en w3 ⟨rfl, ht3, ho3⟩
      have HT3 : Hid (RdV w3 r (.slice SA b.length sc) at2 log cyc (.slice A log.length ca) vc 0) := hid ht3
      have HO3 : Hid (Only (Own r (.slice A log.length ca) vc) w w3) := hid (HO2.out.trans ho3 (fun q hq => Or.inl (Or.inl hq)))
      clear ht3 ho3 hc2 hv1' hv2'
      go_wp2_with fail
      have hwm : IntKind.i64.wrap ((c : Int) - 191) = (m : Int) := by rw [HCM.out, IntKind.wrap_i64]; omega
      have hcm : (c : Int) - 191 = (m : Int) := HCM.out
      go_loopw [9, 10] (fun v9 i wr => ∃ (k : Nat) (cost : Int) (vl' vc' : Value) (l' : List (List Int)) (c' : List Int) (e : Int), k ≤ m ∧ i = .int .i64 k ∧ v9 = .int .i64 cost ∧ d ≤ l'.length ∧ Hid (RepS d (m - k) cost l' c' e (repsL d m 18 log cyc)) ∧ Hid (RdV wr r (.slice SA b.length sc) at2 l' c' vl' vc' e) ∧ Hid (Only (Own r (.slice A log.length ca) vc) w wr) ∧ Hid (∀ q, Own r vl' vc' q → Own r (.slice A log.length ca) vc q ∨ w.heap.size ≤ q)) (fun _ i _ => m - (intOf i).toNat)
      case atStart => exact ⟨0, 18, _, _, log, cyc, 0, Nat.zero_le _, rfl, rfl, HDL.out, hid repS_start, HT3, HO3, hid (fun q hq => Or.inl hq)⟩
      case round =>
        obtain ⟨k, cost, vl', vc', l', c'', e, hk, rfl, rfl, hdl', HU, HT, HO, HW⟩ := hrel
        have hc4 := cell_of_cells (k := 4) HT.out.blk rfl
        by_cases hlt : k < m
        · have hdk : decide ((k : Int) < (m : Int)) = true := decide_eq_true (by omega)
          by_cases he : e = 0
          · subst he
            have hd1 : 1 ≤ d := HD1.out
            obtain ⟨B', cb, rfl, -, key⟩ := HT.out.log
            obtain ⟨p, rfl, z, g, c3, hz, hcz, hrz, hnz, hgz⟩ := key (l'.length - d) (by omega)
            have h4' := HT.out.le4
            have hzl : z.length = 14 := HT.out.len z (List.mem_of_getElem? hz)
            rw [hzl] at hcz
            obtain ⟨j, hj⟩ : ∃ j : Nat, j = l'.length - d := ⟨_, rfl⟩
            have hwp : IntKind.i64.wrap ((l'.length : Int) - (d : Int)) = (j : Int) := by rw [IntKind.wrap_i64]; omega
            rw [← hj] at hcz
            have HU2 : Hid (RepS d (m - (k + 1)) 10 (addS 0 l' c'' z cost).1 (addS 0 l' c'' z cost).2.1 (addS 0 l' c'' z cost).2.2 (repsL d m 18 log cyc)) := hid (repS_step (by rw [show m - (k + 1) + 1 = m - k by omega]; exact HU.out) hz)
            have HLN : Hid (d ≤ (addS 0 l' c'' z cost).1.length) := hid (Nat.le_trans hdl' (addS_len 0 l' c'' z cost))
            have HZL := hid hzl; have HRZ := hid hrz
            have hj0 : (0 : Int) ≤ (j : Int) := by omega
            have hjl : (j : Int) < (l'.length : Int) := by omega
            have hc2 := cell_of_cells (k := 2) HT.out.blk rfl
            clear key hz hzl hrz hnz hgz hj
            go_wp2_with fail
            refine wp_region_still_tail 15 (by kernel_rfl) (by kernel_rfl) ?_
            simp only [List.take_succ_cons, List.take_zero, List.drop_succ_cons, List.drop_zero]
            have HRD : Hid (wr.drew.rangeAt g 0 (icells z)) := HRZ
            have hc2' : wr.drew.cell? ⟨r, 2, none⟩ = some (.slice (some ⟨p, 0, none⟩) l'.length cb) := hc2
            have hcz' : wr.drew.cell? ⟨p, j, none⟩ = some (.slice (some ⟨g, 0, none⟩) 14 c3) := hcz
            have HTD : Hid (RdV wr.drew r (.slice SA b.length sc) at2 l' c'' (.slice (some ⟨p, 0, none⟩) l'.length cb) vc' 0) := hid (HT.out.below (Below.refl _ _).drew)
            have HOD : Hid (Only (Own r (.slice A log.length ca) vc) w wr.drew) := hid (HO.out.drewN 1)
            obtain ⟨wd, hwd⟩ : ∃ z, z = wr.drew := ⟨_, rfl⟩
            have hww : ({ wr with drawn := wr.drawn + 1 } : World) = wd := hwd.symm
            rw [hww]
            rw [← hwd] at HRD hc2' hcz' HTD HOD
            clear hww hwd hc2 hcz hc4
            repeat still_step
            refine wpStill_nil ?_
            clear hwp hc2' hcz'
            go_wp2_with fail
            refine (radd_any wd r _ at2 l' c'' _ vc' 0 g 0 _ z cost HTD.out HRD.out HZL.out).mono ?_
            rintro en w4 ⟨rfl, vl2, vc2, ht4, ho4, hw4⟩
            have HT4 := hid ht4; have HO4 := hid ho4; have HW4 := hid hw4
            clear ht4 ho4 hw4
            generalize addS 0 l' c'' z cost = s at *
            go_wp2
            go_roundw
            case rel =>
              refine ⟨k + 1, 10, vl2, vc2, s.1, s.2.1, s.2.2, by omega, by go_num, rfl, HLN.out, HU2, HT4, hid (HOD.out.trans HO4.out HW.out), hid (fun q hq => ?_)⟩
              rcases HW4.out q hq with h | h
              · exact HW.out q h
              · exact Or.inr (by have := HOD.out.size; omega)
            case measure => simp [intOf]; omega
          · have hne : (e == 0) = false := by rw [beq_eq_false_iff_ne]; exact he
            have HE := hid he
            clear he
            go_wp2
            go_end0
            refine ⟨rfl, at2, l', c'', vl', vc', e, HT.out, HLE.out, ?_, HO.out, HW.out⟩
            rw [HRES.out]
            rcases HU.out with ⟨e0, _⟩ | ⟨_, hu⟩
            · exact absurd e0 HE.out
            · rw [hu]; exact rfl
        · obtain rfl : k = m := by omega
          have hdk : decide ((k : Int) < (k : Int)) = false := decide_eq_false (by omega)
          clear hc4
          go_wp2
          go_end0
          refine ⟨rfl, at2, l', c'', vl', vc', e, HT.out, HLE.out, ?_, HO.out, HW.out⟩
          rw [HRES.out]
          rcases HU.out with ⟨e0, hu⟩ | ⟨_, hu⟩
          · rw [Nat.sub_self] at hu
            rw [← hu]
            exact ⟨rfl, e0⟩
          · rw [hu]; exact rfl
    · have hres := HB'.out (fun h => hv2 h.2)
      have hv1' : decide ((1 : Int) ≤ v) = true := decide_eq_true hv1
      have hv2' : decide (v ≤ (log.length : Int)) = false := decide_eq_false hv2
      have HRES := hid hres
      clear hres HB' HG' hv1 hv2
      go_wp2_with fail
      refine (rwant_any w2 r _ at2 log cyc _ vc e2 false HT2.out).mono ?_
      rintro en w3 ⟨rfl, ht3, ho3⟩
      have HT3 := hid ht3
      have HO3 : Hid (Only (Own r (.slice A log.length ca) vc) w w3) := hid (HO2.out.trans ho3 (fun q hq => Or.inl (Or.inl hq)))
      clear ht3 ho3 hc2 hv1' hv2'
      obtain ⟨e3, he3⟩ : ∃ e3, e3 = wantS e2 false := ⟨_, rfl⟩
      rw [← he3] at HT3 HRES
      have hne : (e3 == 0) = false := by rw [beq_eq_false_iff_ne]; exact HRES.out.2
      have hwm : IntKind.i64.wrap ((c : Int) - 191) = (m : Int) := by rw [HCM.out, IntKind.wrap_i64]; omega
      have hcm : (c : Int) - 191 = (m : Int) := HCM.out
      have hd0 : decide ((0 : Int) < (m : Int)) = true := decide_eq_true (by omega)
      clear he3
      go_wp2_with fail
      go_loopw [9, 10] (fun v9 i wr => v9 = .int .i64 18 ∧ i = .int .i64 0 ∧ Hid (RdV wr r (.slice SA b.length sc) at2 log cyc (.slice A log.length ca) vc e3) ∧ Hid (Only (Own r (.slice A log.length ca) vc) w wr)) (fun _ _ _ => 0)
      case atStart => exact ⟨rfl, rfl, HT3, HO3⟩
      case round =>
        obtain ⟨rfl, rfl, HT, HO⟩ := hrel
        have hc4 := cell_of_cells (k := 4) HT.out.blk rfl
        go_wp2
        go_end0
        refine ⟨rfl, at2, log, cyc, _, vc, e3, HT.out, HLE.out, ?_, HO.out, fun q hq => Or.inl hq⟩
        rw [HRES.out.1]
        exact rfl
  · have hres := HB'.out (fun h => hv1 h.1)
    have hv1' : decide ((1 : Int) ≤ v) = false := decide_eq_false hv1
    have HRES := hid hres
    clear hres HB' HG' hv1
    go_wp2_with fail
    refine (rwant_any w2 r _ at2 log cyc _ vc e2 false HT2.out).mono ?_
    rintro en w3 ⟨rfl, ht3, ho3⟩
    have HT3 := hid ht3
    have HO3 : Hid (Only (Own r (.slice A log.length ca) vc) w w3) := hid (HO2.out.trans ho3 (fun q hq => Or.inl (Or.inl hq)))
    clear ht3 ho3 hc2 hv1'
    obtain ⟨e3, he3⟩ : ∃ e3, e3 = wantS e2 false := ⟨_, rfl⟩
    rw [← he3] at HT3 HRES
    have hne : (e3 == 0) = false := by rw [beq_eq_false_iff_ne]; exact HRES.out.2
    have hwm : IntKind.i64.wrap ((c : Int) - 191) = (m : Int) := by rw [HCM.out, IntKind.wrap_i64]; omega
    have hcm : (c : Int) - 191 = (m : Int) := HCM.out
    have hd0 : decide ((0 : Int) < (m : Int)) = true := decide_eq_true (by omega)
    clear he3
    go_wp2_with fail
    go_loopw [9, 10] (fun v9 i wr => v9 = .int .i64 18 ∧ i = .int .i64 0 ∧ Hid (RdV wr r (.slice SA b.length sc) at2 log cyc (.slice A log.length ca) vc e3) ∧ Hid (Only (Own r (.slice A log.length ca) vc) w wr)) (fun _ _ _ => 0)
    case atStart => exact ⟨rfl, rfl, HT3, HO3⟩
    case round =>
      obtain ⟨rfl, rfl, HT, HO⟩ := hrel
      have hc4 := cell_of_cells (k := 4) HT.out.blk rfl
      go_wp2
      go_end0
      refine ⟨rfl, at2, log, cyc, _, vc, e3, HT.out, HLE.out, ?_, HO.out, fun q hq => Or.inl hq⟩
      rw [HRES.out.1]
      exact rfl
end Go.Proofs.Ytjefhconahdbiaa
