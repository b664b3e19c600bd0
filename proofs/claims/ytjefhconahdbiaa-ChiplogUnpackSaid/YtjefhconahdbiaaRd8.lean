/- The reference's command: a run. -/
import Derived.Test.YtjefhconahdbiaaRd7
namespace Go.Proofs.Ytjefhconahdbiaa
open Go.RowKit

theorem range_only {w w' : World} {O : Nat → Prop} {b off : Nat} {cs : List Value} (h : w.rangeAt b off cs) (k : Only O w w') (hO : ¬ O b) : w'.rangeAt b off cs :=
  fun j v hj => (k.cell (World.block_lt_of_cell? w _ (h j v hj)) hO).trans (h j v hj)
/-- Where a run has come to: k entries more, or an error. -/
def RunS (x : List Int) (k : Nat) (l : List (List Int)) (c : List Int) (e : Int) (res : Rd (List (List Int) × List Int)) : Prop := (e = 0 ∧ runsL x k l c = res) ∨ (e ≠ 0 ∧ res = .inl e)
theorem runS_step {x : List Int} {k : Nat} {l : List (List Int)} {c : List Int} {e : Int} {res : Rd (List (List Int) × List Int)} (h : RunS x (k + 1) l c e res) : RunS x k (addS e l c x 6).1 (addS e l c x 6).2.1 (addS e l c x 6).2.2 res := by
  rcases h with ⟨rfl, h⟩ | ⟨he, h⟩
  · unfold addS
    rw [if_pos rfl]
    rw [runsL] at h
    cases hp : putL l c x 6 with
    | inl er =>
      rw [hp] at h
      exact Or.inr ⟨putL_ne hp, h.symm⟩
    | inr p =>
      rw [hp] at h
      exact Or.inl ⟨rfl, h⟩
  · unfold addS
    rw [if_neg he]
    exact Or.inr ⟨he, h⟩
set_option maxHeartbeats 4000000 in
set_option maxRecDepth 100000 in
theorem refcmd_run (w : World) (r : Nat) (sb : Value) (b : List Int) (at_ : Nat) (log : List (List Int)) (cyc : List Int) (vl vc : Value) (c : Nat) (h : RdV w r sb at_ log cyc vl vc 0) (hat : at_ ≤ b.length) (hc : c ≤ 127) :
    Calls Try.prog 86 #[.pointer (some ⟨r, 0, none⟩), .int .i64 c] w (CmdTo w r sb vl vc b (atS at_ (runsL (lastOf log) c log cyc))) := by
  obtain ⟨A, ca, rfl, -, -⟩ := h.log
  have hc2 := cell_of_cells (k := 2) h.blk rfl
  have HKP : Hid (∀ w', Below w.heap.size w w' → w'.cell? ⟨r, 2, none⟩ = some (.slice A log.length ca)) := hid (fun w' hb => (hb.cell (World.block_lt_of_cell? w _ hc2)).trans hc2)
  have HH := hid h
  have h4 := h.le4
  have hw1 : IntKind.i64.wrap ((log.length : Int) - 1) = (log.length : Int) - 1 := by rw [IntKind.wrap_i64]; omega
  have HPL := hid (prev_len h.len (Nat.le_refl log.length))
  have hd : decide ((c : Int) ≤ 127) = true := decide_eq_true (by omega)
  have HLO : Hid (lastOf log = prev log log.length) := hid rfl
  clear h
  go_enter Try.func86, Try.ntmps86
  go_wp2_with fail
  go_region_held3 (fun w' => w'.cell? ⟨r, 2, none⟩ = some (.slice A log.length ca) ∧ Below w.heap.size w w') (first | assumption | (exact ⟨HKP.out _ (Below.refl _ _).drew, (Below.refl _ _).drew⟩) | (obtain ⟨h1, h2⟩ := (by assumption : _ ∧ Below w.heap.size w _); exact ⟨HKP.out _ (Below.step h2 (by assumption)), Below.step h2 (by assumption)⟩))
    ((first
      | (go_at_call 71; go_loud (refine (rentry_any _ r sb at_ log cyc A ca vc 0 (HH.out.below (And.right (by assumption))) log.length (Nat.le_refl _)).mono ?_; rintro e w' ⟨g, c', rfl, hr, hn, hg, hb⟩))))
  have HB : Hid (Below w.heap.size w w') := hid (And.right (by assumption))
  obtain ⟨x, hx⟩ : ∃ x, x = prev log log.length := ⟨_, rfl⟩
  rw [← hx] at hr HPL HLO
  have HR := hid hr; have HN := hid hn
  have HT : Hid (RdV w' r sb at_ log cyc (.slice A log.length ca) vc 0) := hid (HH.out.below HB.out)
  have HON : Hid (Only (Own r (.slice A log.length ca) vc) w w') := hid (Only.ofBelow HB.out)
  rename_i hheld
  clear hheld hx hr hn hg hb hw1 hc2 h4
  go_wp2_with fail
  go_loopw [5] (fun i wr => ∃ (k : Nat) (vl' vc' : Value) (l' : List (List Int)) (c' : List Int) (e : Int), k ≤ c ∧ i = .int .i64 k ∧ Hid (RunS x (c - k) l' c' e (runsL x c log cyc)) ∧ Hid (RdV wr r sb at_ l' c' vl' vc' e) ∧ Hid (wr.rangeAt g 0 (icells x)) ∧ Hid (Only (Own r (.slice A log.length ca) vc) w wr) ∧ Hid (∀ q, Own r vl' vc' q → Own r (.slice A log.length ca) vc q ∨ w.heap.size ≤ q) ∧ Hid (¬ Own r vl' vc' g)) (fun i _ => c - (intOf i).toNat)
  case atStart => exact ⟨0, _, _, log, cyc, 0, Nat.zero_le _, rfl, hid (Or.inl ⟨rfl, rfl⟩), HT, HR, HON, hid (fun q hq => Or.inl hq), HN⟩
  case round =>
    obtain ⟨k, vl', vc', l', c'', e, hk, rfl, HU, HT, HX, HO, HW, HN⟩ := hrel
    by_cases hlt : k < c
    · have hd2 : decide ((k : Int) < (c : Int)) = true := decide_eq_true (by omega)
      go_wp2_with fail
      refine (radd_any _ r sb at_ l' c'' vl' vc' e g 0 _ x 6 HT.out HX.out HPL.out).mono ?_
      rintro en w2 ⟨rfl, vl2, vc2, ht2, ho2, hw2⟩
      have HT2 := hid ht2; have HO2 := hid ho2; have HW2 := hid hw2
      have HU2 : Hid (RunS x (c - (k + 1)) (addS e l' c'' x 6).1 (addS e l' c'' x 6).2.1 (addS e l' c'' x 6).2.2 (runsL x c log cyc)) := hid (by have := HU.out; rw [show c - k = (c - (k + 1)) + 1 by omega] at this; exact runS_step this)
      clear ht2 ho2 hw2
      generalize addS e l' c'' x 6 = s at *
      go_wp2
      go_roundw
      case rel =>
        refine ⟨k + 1, vl2, vc2, s.1, s.2.1, s.2.2, by omega, by go_num, HU2, HT2, hid (range_only HX.out HO2.out HN.out), hid (HO.out.trans HO2.out HW.out), hid (fun q hq => ?_), hid (fun h => ?_)⟩
        · rcases HW2.out q hq with h | h
          · exact HW.out q h
          · exact Or.inr (by have := HO.out.size; omega)
        · rcases HW2.out g h with h1 | h1
          · exact HN.out h1
          · have := World.block_lt_of_cell? _ _ (HX.out 0 _ (List.getElem?_eq_getElem (by rw [icells_len, HPL.out]; omega))); simp at this; omega
      case measure => simp [intOf]; omega
    · obtain rfl : k = c := by omega
      go_wp2
      go_end0
      refine ⟨rfl, at_, l', c'', vl', vc', e, HT.out, hat, ?_, HO.out, HW.out⟩
      have hu := HU.out
      rw [HLO.out]
      rcases hu with ⟨e0, hu⟩ | ⟨_, hu⟩
      · rw [Nat.sub_self] at hu
        rw [← hu]
        exact ⟨rfl, e0⟩
      · rw [hu]
        exact rfl
end Go.Proofs.Ytjefhconahdbiaa
