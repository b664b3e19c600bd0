/- asking.lasting: what a cell of compose asks for, and what it keeps. -/
import Derived.Test.YtkpielgdfahanaaGreatPCol2
import Derived.Test.YtkpielgdfahanaaGreatHasP
import Derived.RegionTactic
import Derived.Deep.QuietTactic
import Derived.BigQuiet
import Derived.BigRegion
/- What lasts in compose. -/
namespace Go.Proofs.YtkpielgdfahanaaGreat
open Go.RowKit Go.Maps
def lastB (e : Int) : Bool := decide (e = 1) || decide (e = 2) || decide (e = 3) || decide (e = 5)
theorem last_index (e : Int) (h0 : 1 ≤ e) (h1 : e ≤ 36) : decide (0 ≤ Go.Lib.indexByte [48, 49, 50, 52] (letN e).toNat.toUInt8) = lastB e := by
  have all : ∀ j : Fin 36, decide (0 ≤ Go.Lib.indexByte [48, 49, 50, 52] (letN ((j.val : Int) + 1)).toNat.toUInt8) = lastB ((j.val : Int) + 1) := by decide
  have := all ⟨(e - 1).toNat, by omega⟩
  rw [show ((((⟨(e - 1).toNat, by omega⟩ : Fin 36).val : Nat) : Int) + 1) = e by show (((e - 1).toNat : Nat) : Int) + 1 = e; omega] at this
  exact this
theorem lasts_any (e : Int) (h0 : 0 ≤ e) (h1 : e ≤ 36) (w : World) : Calls Tryz.prog 75 #[.int .i64 e] w fun x w' => x = .returned (.bool (lastB e)) ∧ w = w' := by
  by_cases hp : e = 0
  · subst hp
    go_enter Tryz.func75, Tryz.ntmps75
    go_wp2
    go_ret
    exact ⟨rfl, rfl⟩
  · have hgt : decide (0 < e) = true := decide_eq_true (by omega)
    have HL := hid (plet_any e (by omega) h1 w)
    have HX := hid (last_index e (by omega) h1)
    clear hp h0 h1
    go_enter Tryz.func75, Tryz.ntmps75
    go_wp2_with fail
    go_at_call 23
    refine HL.out.mono ?_
    rintro x w1 ⟨rfl, rfl⟩
    go_wp2_with fail
    go_at_call 22
    refine (index_any _ _ _).mono ?_
    rintro x w1 ⟨rfl, rfl⟩
    have HX2 : Hid (decide (0 ≤ Go.Lib.indexByte [48, 49, 50, 52] (letN e).toNat.toUInt8) = lastB e) := HX
    change Hid (decide (0 ≤ Go.Lib.indexByte (⟨#[48, 49, 50, 52]⟩ : ByteArray).data.toList (letN e).toNat.toUInt8) = lastB e) at HX2
    generalize Go.Lib.indexByte (⟨#[48, 49, 50, 52]⟩ : ByteArray).data.toList (letN e).toNat.toUInt8 = z at *
    by_cases hz : 0 ≤ z
    · have hz' := decide_eq_true hz
      go_wp2
      go_ret
      exact ⟨ret_bool (by rw [← HX2.out, hz']), rfl⟩
    · have hz' := decide_eq_false hz
      go_wp2
      go_ret
      exact ⟨ret_bool (by rw [← HX2.out, hz']), rfl⟩
end Go.Proofs.YtkpielgdfahanaaGreat
namespace Go.Proofs.YtkpielgdfahanaaGreat
open Go.RowKit Go.Maps
namespace St
def eff (s : St) : Int := s.M.getD 24 0
def par (s : St) : Int := s.M.getD 25 0
def setEP (s : St) (e p : Int) : St := { s with M := (s.M.set 24 e).set 25 p }
end St
/-- What a cell of compose leaves in the memory. -/
def lastS (note e p : Int) (s : St) : St := if e = 0 ∧ note ≠ 0 then s.setEP 0 0 else if e = 0 then s else if lastB e then s.setEP (if p = 0 then 0 else e) p else s
/-- The effect that it asks for. -/
def lastQ (e p : Int) : Int × Int := if lastB e ∧ p = 0 then (0, 0) else (e, p)
def lastR (note e p : Int) (s : St) : Int × Int := if e = 0 ∧ note = 0 then lastQ s.eff s.par else lastQ e p
def Lasted (b base : Nat) (d : Int) (s' : St) (q : Int × Int) (v : Value) (w : World) (e : Ending) (w' : World) : Prop :=
  e = .returned (.tuple #[.int .i64 q.1, .int .i64 q.2]) ∧ ∃ rc', PAt b base d s' v rc' w' ∧ Steps b v v w w'
section
variable {b base : Nat} {d : Int} {s : St} {v : Value} {rc : Bool} {w : World}
theorem PAt.ep (h : PAt b base d s v rc w) (e : Int) : PAt b base d { s with M := s.M.set 24 e } v rc (w.setCell ⟨b, 24, none⟩ (.int .i64 e)) :=
  h.turn (h.asks.at_.set (k := 24) (by omega) e) (grown_set _ _ _ _) (by rw [List.set_append_left _ _ (by rw [h.len]; omega)]) (by simp [h.len]) rfl
theorem PAt.ep2 (h : PAt b base d s v rc w) (p : Int) : PAt b base d { s with M := s.M.set 25 p } v rc (w.setCell ⟨b, 25, none⟩ (.int .i64 p)) :=
  h.turn (h.asks.at_.set (k := 25) (by omega) p) (grown_set _ _ _ _) (by rw [List.set_append_left _ _ (by rw [h.len]; omega)]) (by simp [h.len]) rfl
theorem PAt.setEP (h : PAt b base d s v rc w) (e p : Int) : PAt b base d (s.setEP e p) v rc ((w.setCell ⟨b, 24, none⟩ (.int .i64 e)).setCell ⟨b, 25, none⟩ (.int .i64 p)) := (h.ep e).ep2 p
theorem steps_set2 (b : Nat) (v : Value) (w : World) (x y : Value) (j k : Nat) : Steps b v v w ((w.setCell ⟨b, j, none⟩ x).setCell ⟨b, k, none⟩ y) := Steps.of_grown v (grown_trans (grown_set _ _ _ _) (grown_set _ _ _ _))
theorem PAt.ep3 (h : PAt b base d s v rc w) (e p : Int) : PAt b base d (s.setEP 0 p) v rc (((w.setCell ⟨b, 24, none⟩ (.int .i64 e)).setCell ⟨b, 25, none⟩ (.int .i64 p)).setCell ⟨b, 24, none⟩ (.int .i64 0)) := by
  have k := (h.setEP e p).ep 0
  have e1 : ({ s.setEP e p with M := (s.setEP e p).M.set 24 0 } : St) = s.setEP 0 p := by
    unfold St.setEP
    show St.mk (((s.M.set 24 e).set 25 p).set 24 0) _ _ _ _ = St.mk ((s.M.set 24 0).set 25 p) _ _ _ _
    rw [List.set_comm _ _ (by decide : (25 : Nat) ≠ 24), List.set_set]
  rw [e1] at k
  exact k
theorem steps_set3 (b : Nat) (v : Value) (w : World) (x y z : Value) (j k l : Nat) : Steps b v v w (((w.setCell ⟨b, j, none⟩ x).setCell ⟨b, k, none⟩ y).setCell ⟨b, l, none⟩ z) := Steps.of_grown v (grown_trans (grown_trans (grown_set _ _ _ _) (grown_set _ _ _ _)) (grown_set _ _ _ _))
set_option maxHeartbeats 4000000 in
set_option maxRecDepth 10000 in
theorem plast_note (note inst vc va p : Int) (hn : note ≠ 0) (h : PAt b base d s v rc w) :
    Calls Tryz.prog 51 #[.pointer (some ⟨b, 0, none⟩), .agg #[.int .i64 note, .int .i64 inst, .int .i64 vc, .int .i64 va, .int .i64 0, .int .i64 p]] w (Lasted b base d (s.setEP 0 0) ((0, p)) v w) := by
  have hb := h.asks.at_.lt
  have c24 : w.cell? ⟨b, 24, none⟩ = some (.int .i64 s.eff) := h.cM (k := 24) (by omega)
  have c25 : w.cell? ⟨b, 25, none⟩ = some (.int .i64 s.par) := h.cM (k := 25) (by omega)
  have f24 := h.asks.at_.free 24
  have f25 := h.asks.at_.free 25
  have H := hid h
  have hn' : (note != 0) = true := by simpa using hn
  have HE : Hid ((0 : Int) ≤ 0 ∧ (0 : Int) ≤ 36) := hid (by decide)
  have hl : lastB 0 = false := rfl
  clear h hn
  go_enter Tryz.func51, Tryz.ntmps51
  go_wp2_with fail
  go_at_call 75
  refine (lasts_any 0 HE.out.1 HE.out.2 _).mono ?_
  rintro x w1 ⟨rfl, rfl⟩
  go_wp2
  go_quiet (fail)
  go_wp2
  go_ret2
  exact ⟨rfl, _, ((H.out.setEP 0 0).later (below1 _ _)).drewN nq, ((steps_set2 b v w _ _ 24 25).trans (Steps.below b v (below1 _ _))).trans (Steps.quiet b v _ nq)⟩
set_option maxHeartbeats 4000000 in
set_option maxRecDepth 10000 in
theorem plast_old0 (inst vc va p : Int) (he : 0 ≤ s.eff ∧ s.eff ≤ 36) (hl : lastB s.eff = true) (hp : s.par = 0) (h : PAt b base d s v rc w) :
    Calls Tryz.prog 51 #[.pointer (some ⟨b, 0, none⟩), .agg #[.int .i64 0, .int .i64 inst, .int .i64 vc, .int .i64 va, .int .i64 0, .int .i64 p]] w (Lasted b base d (s) ((0, 0)) v w) := by
  have hb := h.asks.at_.lt
  have c24 : w.cell? ⟨b, 24, none⟩ = some (.int .i64 s.eff) := h.cM (k := 24) (by omega)
  have c25 : w.cell? ⟨b, 25, none⟩ = some (.int .i64 s.par) := h.cM (k := 25) (by omega)
  have f24 := h.asks.at_.free 24
  have f25 := h.asks.at_.free 25
  have H := hid h
  have HE := hid he
  rw [hp] at c25
  clear hp
  clear h he
  go_enter Tryz.func51, Tryz.ntmps51
  go_wp2
  go_region
  go_wp2_with fail
  go_at_call 75
  refine (lasts_any s.eff HE.out.1 HE.out.2 _).mono ?_
  rintro x w1 ⟨rfl, rfl⟩
  go_wp2
  go_ret2
  exact ⟨rfl, _, (H.out.later (below1 _ _)).drew, (Steps.below b v (below1 _ _)).trans (Steps.drew1 b v _)⟩
set_option maxHeartbeats 4000000 in
set_option maxRecDepth 10000 in
theorem plast_old1 (inst vc va p : Int) (he : 0 ≤ s.eff ∧ s.eff ≤ 36) (hl : lastB s.eff = true) (hp : s.par ≠ 0) (h : PAt b base d s v rc w) :
    Calls Tryz.prog 51 #[.pointer (some ⟨b, 0, none⟩), .agg #[.int .i64 0, .int .i64 inst, .int .i64 vc, .int .i64 va, .int .i64 0, .int .i64 p]] w (Lasted b base d (s) ((s.eff, s.par)) v w) := by
  have hb := h.asks.at_.lt
  have c24 : w.cell? ⟨b, 24, none⟩ = some (.int .i64 s.eff) := h.cM (k := 24) (by omega)
  have c25 : w.cell? ⟨b, 25, none⟩ = some (.int .i64 s.par) := h.cM (k := 25) (by omega)
  have f24 := h.asks.at_.free 24
  have f25 := h.asks.at_.free 25
  have H := hid h
  have HE := hid he
  have hp' : (s.par == 0) = false := beq_false hp
  clear hp
  clear h he
  go_enter Tryz.func51, Tryz.ntmps51
  go_wp2
  go_region
  go_wp2_with fail
  go_at_call 75
  refine (lasts_any s.eff HE.out.1 HE.out.2 _).mono ?_
  rintro x w1 ⟨rfl, rfl⟩
  go_wp2
  go_quiet (fail)
  go_wp2
  go_ret2
  exact ⟨rfl, _, ((H.out.later (below1 _ _)).drew).drewN nq, ((Steps.below b v (below1 _ _)).trans (Steps.drew1 b v _)).trans (Steps.quiet b v _ nq)⟩
set_option maxHeartbeats 4000000 in
set_option maxRecDepth 10000 in
theorem plast_old2 (inst vc va p : Int) (he : 0 ≤ s.eff ∧ s.eff ≤ 36) (hl : lastB s.eff = false) (h : PAt b base d s v rc w) :
    Calls Tryz.prog 51 #[.pointer (some ⟨b, 0, none⟩), .agg #[.int .i64 0, .int .i64 inst, .int .i64 vc, .int .i64 va, .int .i64 0, .int .i64 p]] w (Lasted b base d (s) ((s.eff, s.par)) v w) := by
  have hb := h.asks.at_.lt
  have c24 : w.cell? ⟨b, 24, none⟩ = some (.int .i64 s.eff) := h.cM (k := 24) (by omega)
  have c25 : w.cell? ⟨b, 25, none⟩ = some (.int .i64 s.par) := h.cM (k := 25) (by omega)
  have f24 := h.asks.at_.free 24
  have f25 := h.asks.at_.free 25
  have H := hid h
  have HE := hid he
  clear h he
  go_enter Tryz.func51, Tryz.ntmps51
  go_wp2
  go_region
  go_wp2_with fail
  go_at_call 75
  refine (lasts_any s.eff HE.out.1 HE.out.2 _).mono ?_
  rintro x w1 ⟨rfl, rfl⟩
  go_wp2
  go_quiet (fail)
  go_wp2
  go_ret2
  exact ⟨rfl, _, ((H.out.later (below1 _ _)).drew).drewN nq, ((Steps.below b v (below1 _ _)).trans (Steps.drew1 b v _)).trans (Steps.quiet b v _ nq)⟩
set_option maxHeartbeats 4000000 in
set_option maxRecDepth 10000 in
theorem plast_new0 (note inst vc va e : Int) (e0 : 0 ≤ e) (e1 : e ≤ 36) (hz : e ≠ 0) (hl : lastB e = true) (h : PAt b base d s v rc w) :
    Calls Tryz.prog 51 #[.pointer (some ⟨b, 0, none⟩), .agg #[.int .i64 note, .int .i64 inst, .int .i64 vc, .int .i64 va, .int .i64 e, .int .i64 0]] w (Lasted b base d (s.setEP 0 0) ((0, 0)) v w) := by
  have hb := h.asks.at_.lt
  have c24 : w.cell? ⟨b, 24, none⟩ = some (.int .i64 s.eff) := h.cM (k := 24) (by omega)
  have c25 : w.cell? ⟨b, 25, none⟩ = some (.int .i64 s.par) := h.cM (k := 25) (by omega)
  have f24 := h.asks.at_.free 24
  have f25 := h.asks.at_.free 25
  have H := hid h
  have HE := hid (And.intro e0 e1)
  have hz1 : (e == 0) = false := beq_false hz
  have hp0 : (0 : Int) = 0 := rfl
  clear hp0
  clear h hz e0 e1
  go_enter Tryz.func51, Tryz.ntmps51
  go_wp2_with fail
  go_at_call 75
  refine (lasts_any e HE.out.1 HE.out.2 _).mono ?_
  rintro x w1 ⟨rfl, rfl⟩
  go_wp2
  go_region
  go_wp2_with fail
  go_at_call 75
  refine (lasts_any e HE.out.1 HE.out.2 _).mono ?_
  rintro x w1 ⟨rfl, rfl⟩
  go_wp2
  go_ret2
  exact ⟨rfl, _, ((H.out.ep3 e 0).later (below1 _ _)).drew, ((steps_set3 b v w _ _ _ 24 25 24).trans (Steps.below b v (below1 _ _))).trans (Steps.drew1 b v _)⟩
set_option maxHeartbeats 4000000 in
set_option maxRecDepth 10000 in
theorem plast_new1 (note inst vc va e p : Int) (e0 : 0 ≤ e) (e1 : e ≤ 36) (hz : e ≠ 0) (hl : lastB e = true) (hp : p ≠ 0) (h : PAt b base d s v rc w) :
    Calls Tryz.prog 51 #[.pointer (some ⟨b, 0, none⟩), .agg #[.int .i64 note, .int .i64 inst, .int .i64 vc, .int .i64 va, .int .i64 e, .int .i64 p]] w (Lasted b base d (s.setEP e p) ((e, p)) v w) := by
  have hb := h.asks.at_.lt
  have c24 : w.cell? ⟨b, 24, none⟩ = some (.int .i64 s.eff) := h.cM (k := 24) (by omega)
  have c25 : w.cell? ⟨b, 25, none⟩ = some (.int .i64 s.par) := h.cM (k := 25) (by omega)
  have f24 := h.asks.at_.free 24
  have f25 := h.asks.at_.free 25
  have H := hid h
  have HE := hid (And.intro e0 e1)
  have hz1 : (e == 0) = false := beq_false hz
  have hp1 : (p == 0) = false := beq_false hp
  clear hp
  clear h hz e0 e1
  go_enter Tryz.func51, Tryz.ntmps51
  go_wp2_with fail
  go_at_call 75
  refine (lasts_any e HE.out.1 HE.out.2 _).mono ?_
  rintro x w1 ⟨rfl, rfl⟩
  go_wp2
  go_region
  go_wp2_with fail
  go_at_call 75
  refine (lasts_any e HE.out.1 HE.out.2 _).mono ?_
  rintro x w1 ⟨rfl, rfl⟩
  go_wp2
  go_quiet (fail)
  go_wp2
  go_ret2
  exact ⟨rfl, _, (((H.out.setEP e p).later (below1 _ _)).drew).drewN nq, (((steps_set2 b v w _ _ 24 25).trans (Steps.below b v (below1 _ _))).trans (Steps.drew1 b v _)).trans (Steps.quiet b v _ nq)⟩
set_option maxHeartbeats 4000000 in
set_option maxRecDepth 10000 in
theorem plast_new2 (note inst vc va e p : Int) (e0 : 0 ≤ e) (e1 : e ≤ 36) (hz : e ≠ 0) (hl : lastB e = false) (h : PAt b base d s v rc w) :
    Calls Tryz.prog 51 #[.pointer (some ⟨b, 0, none⟩), .agg #[.int .i64 note, .int .i64 inst, .int .i64 vc, .int .i64 va, .int .i64 e, .int .i64 p]] w (Lasted b base d (s) ((e, p)) v w) := by
  have hb := h.asks.at_.lt
  have c24 : w.cell? ⟨b, 24, none⟩ = some (.int .i64 s.eff) := h.cM (k := 24) (by omega)
  have c25 : w.cell? ⟨b, 25, none⟩ = some (.int .i64 s.par) := h.cM (k := 25) (by omega)
  have f24 := h.asks.at_.free 24
  have f25 := h.asks.at_.free 25
  have H := hid h
  have HE := hid (And.intro e0 e1)
  have hz1 : (e == 0) = false := beq_false hz
  clear h hz e0 e1
  go_enter Tryz.func51, Tryz.ntmps51
  go_wp2_with fail
  go_at_call 75
  refine (lasts_any e HE.out.1 HE.out.2 _).mono ?_
  rintro x w1 ⟨rfl, rfl⟩
  go_wp2_with fail
  go_at_call 75
  refine (lasts_any e HE.out.1 HE.out.2 _).mono ?_
  rintro x w1 ⟨rfl, rfl⟩
  go_wp2
  go_quiet (fail)
  go_wp2
  go_ret2
  exact ⟨rfl, _, (H.out.later (below1 _ _)).drewN nq, (Steps.below b v (below1 _ _)).trans (Steps.quiet b v _ nq)⟩
theorem plasting (note inst vc va e p : Int) (e0 : 0 ≤ e) (e1 : e ≤ 36) (he : 0 ≤ s.eff ∧ s.eff ≤ 36) (h : PAt b base d s v rc w) :
    Calls Tryz.prog 51 #[.pointer (some ⟨b, 0, none⟩), .agg #[.int .i64 note, .int .i64 inst, .int .i64 vc, .int .i64 va, .int .i64 e, .int .i64 p]] w (Lasted b base d (lastS note e p s) (lastR note e p s) v w) := by
  unfold lastS lastR lastQ
  by_cases hz : e = 0
  · subst hz
    by_cases hn : note = 0
    · subst hn
      by_cases hl : lastB s.eff = true
      · by_cases hp : s.par = 0
        · simpa [hl, hp] using plast_old0 inst vc va p he hl hp h
        · simpa [hl, hp] using plast_old1 inst vc va p he hl hp h
      · have hl : lastB s.eff = false := by simpa using hl
        simpa [hl] using plast_old2 inst vc va p he hl h
    · have hl : lastB 0 = false := rfl
      simpa [hn, hl] using plast_note note inst vc va p hn h
  · by_cases hl : lastB e = true
    · by_cases hp : p = 0
      · subst hp
        simpa [hz, hl] using plast_new0 note inst vc va e e0 e1 hz hl h
      · simpa [hz, hl, hp] using plast_new1 note inst vc va e p e0 e1 hz hl hp h
    · have hl : lastB e = false := by simpa using hl
      simpa [hz, hl] using plast_new2 note inst vc va e p e0 e1 hz hl h
end
end Go.Proofs.YtkpielgdfahanaaGreat
