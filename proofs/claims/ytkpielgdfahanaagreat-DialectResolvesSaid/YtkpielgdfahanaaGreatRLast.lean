/- The reference's lasting: what lasts in compose. -/
import Derived.Test.YtkpielgdfahanaaGreatREff
import Derived.Test.YtkpielgdfahanaaGreatRCol
import Derived.Test.YtkpielgdfahanaaGreatLasting
namespace Go.Proofs.YtkpielgdfahanaaGreat
open Go.RowKit Go.Maps
section
variable {b base : Nat} {d : Int} {s : St} {v : Value} {w : World}
theorem has_lasts (e : Int) (h0 : 1 ≤ e) (h1 : e ≤ 36) : hasL [48, 49, 50, 52] (letN e) = lastB e := by
  have all : ∀ j : Fin 36, hasL [48, 49, 50, 52] (letN ((j.val : Int) + 1)) = lastB ((j.val : Int) + 1) := by decide
  have := all ⟨(e - 1).toNat, by omega⟩
  rw [show ((((⟨(e - 1).toNat, by omega⟩ : Fin 36).val : Nat) : Int) + 1) = e by show (((e - 1).toNat : Nat) : Int) + 1 = e; omega] at this
  exact this
theorem has27 (e : Int) (bl : Bool) (h0 : 1 ≤ e) (h1 : e ≤ 36) (hl : lastB e = bl) (w : World) : Calls Tryz.prog 27 #[.string ⟨#[48, 49, 50, 52]⟩, .int .u8 (letN e)] w fun x w' => x = .returned (.bool bl) ∧ w = w' := by
  have := has_any [48, 49, 50, 52] (letN e) w (by decide)
  rw [has_lasts e h0 h1, hl] at this
  exact this
theorem RAt.ep (h : RAt b base s v w) (e : Int) : RAt b base { s with M := s.M.set 24 e } v (w.setCell ⟨b, 24, none⟩ (.int .i64 e)) :=
  h.turn (h.at_.set (k := 24) (by omega) e) (grown_set _ _ _ _) (by rw [List.set_append_left _ _ (by rw [h.len]; omega)]) (by simp [h.len]) rfl
theorem RAt.ep2 (h : RAt b base s v w) (p : Int) : RAt b base { s with M := s.M.set 25 p } v (w.setCell ⟨b, 25, none⟩ (.int .i64 p)) :=
  h.turn (h.at_.set (k := 25) (by omega) p) (grown_set _ _ _ _) (by rw [List.set_append_left _ _ (by rw [h.len]; omega)]) (by simp [h.len]) rfl
theorem RAt.setEP (h : RAt b base s v w) (e p : Int) : RAt b base (s.setEP e p) v ((w.setCell ⟨b, 24, none⟩ (.int .i64 e)).setCell ⟨b, 25, none⟩ (.int .i64 p)) := (h.ep e).ep2 p
theorem RAt.ep3 (h : RAt b base s v w) (e p : Int) : RAt b base (s.setEP 0 p) v (((w.setCell ⟨b, 24, none⟩ (.int .i64 e)).setCell ⟨b, 25, none⟩ (.int .i64 p)).setCell ⟨b, 24, none⟩ (.int .i64 0)) := by
  have k := (h.setEP e p).ep 0
  have e1 : ({ s.setEP e p with M := (s.setEP e p).M.set 24 0 } : St) = s.setEP 0 p := by
    unfold St.setEP
    show St.mk (((s.M.set 24 e).set 25 p).set 24 0) _ _ _ _ = St.mk ((s.M.set 24 0).set 25 p) _ _ _ _
    rw [List.set_comm _ _ (by decide : (25 : Nat) ≠ 24), List.set_set]
  rw [e1] at k
  exact k
theorem c6 {w : World} {g : Nat} {a b c d e f : Value} {t : TypeId} (h : w.heap[g]? = some (.cells #[a, b, c, d, e, f] t (0, 0))) :
    w.cell? ⟨g, 0, none⟩ = some a ∧ w.cell? ⟨g, 4, none⟩ = some e ∧ w.cell? ⟨g, 5, none⟩ = some f := by
  refine ⟨?_, ?_, ?_⟩ <;> (rw [cell_of_row w g _ _ _ _ h]; rfl)
/-- What the reference's lasting leaves. -/
def rlastS (note e p : Int) (s : St) : St :=
  if e ≠ 0 ∧ lastB e = true then s.setEP (if p = 0 then 0 else e) p else if e ≠ 0 then s else if note ≠ 0 then s.setEP 0 0 else if s.eff = 0 then s else effR 5 s.eff s.par s
set_option maxHeartbeats 4000000 in
set_option maxRecDepth 10000 in
theorem rl_new0 (note inst vc va e : Int) (e0 : 1 ≤ e) (e1 : e ≤ 36) (hz : e ≠ 0) (hl : lastB e = true) (h : RAt b base s v w) : Calls Tryz.prog 32 #[.pointer (some ⟨b, 0, none⟩), .agg #[.int .i64 note, .int .i64 inst, .int .i64 vc, .int .i64 va, .int .i64 e, .int .i64 0]] w (RRan b base (s.setEP 0 0) v w) := by
  have hb := h.at_.lt
  have c24 : w.cell? ⟨b, 24, none⟩ = some (.int .i64 s.eff) := h.cM (k := 24) (by omega)
  have c25 : w.cell? ⟨b, 25, none⟩ = some (.int .i64 s.par) := h.cM (k := 25) (by omega)
  have f24 := h.at_.free 24
  have f25 := h.at_.free 25
  have H := hid h
  have HE := hid (And.intro e0 e1)
  have hz1 : (e != 0) = true := bne_iff_ne.2 hz
  have hz2 : (e == 0) = false := beq_false hz
  have HL := hid hl
  clear hz e0 e1 hl
  clear h
  go_enter Tryz.func32, Tryz.ntmps32
  go_wp2_with fail
  go_at_call 28
  refine (rlet_any e HE.out.1 HE.out.2 _).mono ?_
  rintro x w1 ⟨rfl, rfl⟩
  go_wp2_with fail
  go_at_call 27
  refine (has27 e true HE.out.1 HE.out.2 HL.out _).mono ?_
  rintro x w1 ⟨rfl, rfl⟩
  go_wp2
  go_region
  go_wp2
  go_end0
  exact ⟨rfl, _, ((H.out.ep3 e 0).later (below1 _ _)).drew, ((steps_set3 b v w _ _ _ 24 25 24).trans (Steps.below b v (below1 _ _))).trans (Steps.drew1 b v _)⟩
set_option maxHeartbeats 4000000 in
set_option maxRecDepth 10000 in
theorem rl_new1 (note inst vc va e p : Int) (e0 : 1 ≤ e) (e1 : e ≤ 36) (hz : e ≠ 0) (hp : p ≠ 0) (hl : lastB e = true) (h : RAt b base s v w) : Calls Tryz.prog 32 #[.pointer (some ⟨b, 0, none⟩), .agg #[.int .i64 note, .int .i64 inst, .int .i64 vc, .int .i64 va, .int .i64 e, .int .i64 p]] w (RRan b base (s.setEP e p) v w) := by
  have hb := h.at_.lt
  have c24 : w.cell? ⟨b, 24, none⟩ = some (.int .i64 s.eff) := h.cM (k := 24) (by omega)
  have c25 : w.cell? ⟨b, 25, none⟩ = some (.int .i64 s.par) := h.cM (k := 25) (by omega)
  have f24 := h.at_.free 24
  have f25 := h.at_.free 25
  have H := hid h
  have HE := hid (And.intro e0 e1)
  have hz1 : (e != 0) = true := bne_iff_ne.2 hz
  have hz2 : (e == 0) = false := beq_false hz
  have HL := hid hl
  clear hz e0 e1 hl
  have hp1 : (p == 0) = false := beq_false hp
  clear hp
  clear h
  go_enter Tryz.func32, Tryz.ntmps32
  go_wp2_with fail
  go_at_call 28
  refine (rlet_any e HE.out.1 HE.out.2 _).mono ?_
  rintro x w1 ⟨rfl, rfl⟩
  go_wp2_with fail
  go_at_call 27
  refine (has27 e true HE.out.1 HE.out.2 HL.out _).mono ?_
  rintro x w1 ⟨rfl, rfl⟩
  go_wp2
  go_region
  go_wp2
  go_end0
  exact ⟨rfl, _, ((H.out.setEP e p).later (below1 _ _)).drew, ((steps_set2 b v w _ _ 24 25).trans (Steps.below b v (below1 _ _))).trans (Steps.drew1 b v _)⟩
set_option maxHeartbeats 4000000 in
set_option maxRecDepth 10000 in
theorem rl_keep (note inst vc va e p : Int) (e0 : 1 ≤ e) (e1 : e ≤ 36) (hz : e ≠ 0) (hl : lastB e = false) (h : RAt b base s v w) : Calls Tryz.prog 32 #[.pointer (some ⟨b, 0, none⟩), .agg #[.int .i64 note, .int .i64 inst, .int .i64 vc, .int .i64 va, .int .i64 e, .int .i64 p]] w (RRan b base (s) v w) := by
  have hb := h.at_.lt
  have c24 : w.cell? ⟨b, 24, none⟩ = some (.int .i64 s.eff) := h.cM (k := 24) (by omega)
  have c25 : w.cell? ⟨b, 25, none⟩ = some (.int .i64 s.par) := h.cM (k := 25) (by omega)
  have f24 := h.at_.free 24
  have f25 := h.at_.free 25
  have H := hid h
  have HE := hid (And.intro e0 e1)
  have hz1 : (e != 0) = true := bne_iff_ne.2 hz
  have hz2 : (e == 0) = false := beq_false hz
  have HL := hid hl
  clear hz e0 e1 hl
  clear h
  go_enter Tryz.func32, Tryz.ntmps32
  go_wp2_with fail
  go_at_call 28
  refine (rlet_any e HE.out.1 HE.out.2 _).mono ?_
  rintro x w1 ⟨rfl, rfl⟩
  go_wp2_with fail
  go_at_call 27
  refine (has27 e false HE.out.1 HE.out.2 HL.out _).mono ?_
  rintro x w1 ⟨rfl, rfl⟩
  go_wp2
  go_end0
  exact ⟨rfl, _, H.out.later (below1 _ _), Steps.below b v (below1 _ _)⟩
set_option maxHeartbeats 4000000 in
set_option maxRecDepth 10000 in
theorem rl_note (note inst vc va p : Int) (hn : note ≠ 0) (h : RAt b base s v w) : Calls Tryz.prog 32 #[.pointer (some ⟨b, 0, none⟩), .agg #[.int .i64 note, .int .i64 inst, .int .i64 vc, .int .i64 va, .int .i64 0, .int .i64 p]] w (RRan b base (s.setEP 0 0) v w) := by
  have hb := h.at_.lt
  have c24 : w.cell? ⟨b, 24, none⟩ = some (.int .i64 s.eff) := h.cM (k := 24) (by omega)
  have c25 : w.cell? ⟨b, 25, none⟩ = some (.int .i64 s.par) := h.cM (k := 25) (by omega)
  have f24 := h.at_.free 24
  have f25 := h.at_.free 25
  have H := hid h
  have hn1 : (note != 0) = true := bne_iff_ne.2 hn
  clear hn
  clear h
  go_enter Tryz.func32, Tryz.ntmps32
  go_wp2
  go_end0
  exact ⟨rfl, _, (H.out.setEP 0 0).later (below1 _ _), (steps_set2 b v w _ _ 24 25).trans (Steps.below b v (below1 _ _))⟩
set_option maxHeartbeats 4000000 in
set_option maxRecDepth 10000 in
theorem rl_old0 (inst vc va p : Int) (he : s.eff = 0) (h : RAt b base s v w) : Calls Tryz.prog 32 #[.pointer (some ⟨b, 0, none⟩), .agg #[.int .i64 0, .int .i64 inst, .int .i64 vc, .int .i64 va, .int .i64 0, .int .i64 p]] w (RRan b base (s) v w) := by
  have hb := h.at_.lt
  have c24 : w.cell? ⟨b, 24, none⟩ = some (.int .i64 s.eff) := h.cM (k := 24) (by omega)
  have c25 : w.cell? ⟨b, 25, none⟩ = some (.int .i64 s.par) := h.cM (k := 25) (by omega)
  have f24 := h.at_.free 24
  have f25 := h.at_.free 25
  have H := hid h
  rw [he] at c24
  clear he
  clear h
  go_enter Tryz.func32, Tryz.ntmps32
  go_wp2
  go_end0
  exact ⟨rfl, _, H.out.later (below1 _ _), Steps.below b v (below1 _ _)⟩
set_option maxHeartbeats 4000000 in
set_option maxRecDepth 10000 in
theorem rl_old1 (inst vc va p : Int) (he : s.eff ≠ 0) (e0 : 0 ≤ s.eff ∧ s.eff ≤ 36) (p0 : 0 ≤ s.par ∧ s.par ≤ 255) (hm : Mid s) (h : RAt b base s v w) : Calls Tryz.prog 32 #[.pointer (some ⟨b, 0, none⟩), .agg #[.int .i64 0, .int .i64 inst, .int .i64 vc, .int .i64 va, .int .i64 0, .int .i64 p]] w (RRan b base (effR 5 s.eff s.par s) v w) := by
  have hb := h.at_.lt
  have c24 : w.cell? ⟨b, 24, none⟩ = some (.int .i64 s.eff) := h.cM (k := 24) (by omega)
  have c25 : w.cell? ⟨b, 25, none⟩ = some (.int .i64 s.par) := h.cM (k := 25) (by omega)
  have f24 := h.at_.free 24
  have f25 := h.at_.free 25
  have H := hid h
  have he1 : (s.eff != 0) = true := bne_iff_ne.2 he
  have HE : Hid (1 ≤ s.eff ∧ s.eff ≤ 36) := hid (by omega)
  have HP := hid p0
  have HM := hid hm
  clear he e0 p0 hm
  obtain ⟨E0, hE0⟩ : ∃ E0, E0 = s.eff := ⟨_, rfl⟩
  obtain ⟨P0, hP0⟩ : ∃ P0, P0 = s.par := ⟨_, rfl⟩
  rw [← hE0] at HE he1
  rw [← hP0] at HP
  clear h
  go_enter Tryz.func32, Tryz.ntmps32
  go_upto_region 1 with (fail)
  have HQ := heap_alloc_new w (.cells #[.int .i64 0, .int .i64 inst, .int .i64 vc, .int .i64 va, .int .i64 0, .int .i64 p] 23)
  obtain ⟨q0, q4, q5⟩ := c6 HQ
  have HA := hid (H.out.later (below1 w (.cells #[.int .i64 0, .int .i64 inst, .int .i64 vc, .int .i64 va, .int .i64 0, .int .i64 p] 23)))
  have GB := hid (Steps.below b v (below1 w (.cells #[.int .i64 0, .int .i64 inst, .int .i64 vc, .int .i64 va, .int .i64 0, .int .i64 p] 23)))
  clear HQ c24 c25 f24 f25 H
  generalize w.alloc (.cells #[.int .i64 0, .int .i64 inst, .int .i64 vc, .int .i64 va, .int .i64 0, .int .i64 p] 23) = wa at *
  generalize w.heap.size = g at *
  have c24 : wa.cell? ⟨b, 24, none⟩ = some (.int .i64 E0) := by rw [hE0]; exact HA.out.cM (by decide)
  have c25 : wa.cell? ⟨b, 25, none⟩ = some (.int .i64 P0) := by rw [hP0]; exact HA.out.cM (by decide)
  have HE0 := hid hE0
  have HP0 := hid hP0
  clear hE0 hP0
  go_wp2
  go_still_tail 11, (by kernel_rfl)
  change wpList _ _ _ _ _ wa.drew
  replace HA := hid HA.out.drew
  go_wp2_with fail
  go_at_call 33
  refine (reff_any 5 E0 P0 (by decide) (by decide) HE.out.1 HE.out.2 HP.out.1 HP.out.2 (Or.inl rfl) HA.out HM.out).mono ?_
  rintro x w2 ⟨rfl, v2, k, g⟩
  have H2 := hid k
  have G2 := hid (GB.out.trans g.drewl)
  clear k g
  go_wp2
  go_end0
  rw [← HE0.out, ← HP0.out]
  exact ⟨rfl, _, H2.out, G2.out⟩
theorem rlasting (note inst vc va e p : Int) (e0 : 0 ≤ e ∧ e ≤ 36) (m0 : 0 ≤ s.eff ∧ s.eff ≤ 36) (p0 : 0 ≤ s.par ∧ s.par ≤ 255) (hm : Mid s) (h : RAt b base s v w) : Calls Tryz.prog 32 #[.pointer (some ⟨b, 0, none⟩), .agg #[.int .i64 note, .int .i64 inst, .int .i64 vc, .int .i64 va, .int .i64 e, .int .i64 p]] w (RRan b base (rlastS note e p s) v w) := by
  unfold rlastS
  by_cases he : e = 0
  · subst he
    rw [if_neg (fun k => k.1 rfl), if_neg (fun k => k rfl)]
    by_cases hn : note = 0
    · subst hn
      rw [if_neg (fun k => k rfl)]
      by_cases hz : s.eff = 0
      · rw [if_pos hz]; exact rl_old0 inst vc va p hz h
      · rw [if_neg hz]; exact rl_old1 inst vc va p hz m0 p0 hm h
    · rw [if_pos hn]; exact rl_note note inst vc va p hn h
  · cases hl : lastB e with
    | false => rw [if_neg (fun k => by cases k.2), if_pos he]; exact rl_keep note inst vc va e p (by omega) e0.2 he hl h
    | true =>
      rw [if_pos ⟨he, rfl⟩]
      by_cases hp : p = 0
      · subst hp; rw [if_pos rfl]; exact rl_new0 note inst vc va e (by omega) e0.2 he hl h
      · rw [if_neg hp]; exact rl_new1 note inst vc va e p (by omega) e0.2 he hp hl h
end
end Go.Proofs.YtkpielgdfahanaaGreat
