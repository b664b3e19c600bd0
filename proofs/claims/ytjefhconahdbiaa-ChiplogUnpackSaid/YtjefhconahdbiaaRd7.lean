/- The reference's reader: an entry that is added whatever the error; the last entry. -/
import Derived.Test.YtjefhconahdbiaaRd6
import Derived.Test.YtjefhconahdbiaaDiffer
namespace Go.Proofs.Ytjefhconahdbiaa
open Go.RowKit

theorem RdV.own_ge {w : World} {r at_ : Nat} {sb vl vc : Value} {log : List (List Int)} {cyc : List Int} {e : Int} (h : RdV w r sb at_ log cyc vl vc e) : ∀ q, Own r vl vc q → r ≤ q ∧ q < w.heap.size := by
  obtain ⟨hdrs, h0, _⟩ := h.out
  intro q hq
  rcases hq with rfl | hq | hq
  · exact ⟨Nat.le_refl _, h.lt⟩
  · have := h0.lt q hq; omega
  · have := h.ownC.lt q hq; omega
theorem RdV.own_le {w : World} {r at_ : Nat} {sb vl vc : Value} {log : List (List Int)} {cyc : List Int} {e : Int} (h : RdV w r sb at_ log cyc vl vc e) : ∀ q, Own r vl vc q → r ≤ q := fun q hq => (h.own_ge q hq).1
/-- The reader where only its own block has changed. -/
theorem RdV.far {w w' : World} {r at_ at2 : Nat} {sb vl vc : Value} {log : List (List Int)} {cyc : List Int} {e e2 : Int} (h : RdV w r sb at_ log cyc vl vc e) (o : Only (fun q => q = r) w w')
    (blk : w'.heap[r]? = some (.cells #[sb, .int .i64 at2, vl, vc, .int .i64 e2] 133 (0, 0))) : RdV w' r sb at2 log cyc vl vc e2 :=
  h.turn (fun q hq hl => o.block q hl (by omega)) o.size blk
theorem RdV.log {w : World} {r at_ : Nat} {sb vl vc : Value} {log : List (List Int)} {cyc : List Int} {e : Int} (h : RdV w r sb at_ log cyc vl vc e) : ∃ A c, vl = .slice A log.length c ∧ LogAt w A log ∧
    ∀ i, i < log.length → ∃ p, A = some ⟨p, 0, none⟩ ∧ ∃ z g c', log[i]? = some z ∧ w.cell? ⟨p, i, none⟩ = some (.slice (some ⟨g, 0, none⟩) z.length c') ∧ w.rangeAt g 0 (icells z) ∧ ¬ Own r vl vc g ∧ g < w.heap.size := by
  obtain ⟨hdrs, h0, hrows⟩ := h.out
  obtain ⟨A, c, rfl, hA⟩ := owned_form h0
  have hl : hdrs.length = log.length := by have := h0.1; omega
  have key : ∀ i, i < log.length → ∃ p, A = some ⟨p, 0, none⟩ ∧ ∃ z g c', log[i]? = some z ∧ w.cell? ⟨p, i, none⟩ = some (.slice (some ⟨g, 0, none⟩) z.length c') ∧ w.rangeAt g 0 (icells z) ∧ ¬ Own r (.slice A log.length c) vc g ∧ g < w.heap.size := by
    intro i hi
    obtain ⟨p, rfl, _, _⟩ := hA (by omega)
    obtain ⟨hv, hhv⟩ : ∃ x, hdrs[i]? = some x := ⟨_, List.getElem?_eq_getElem (by omega)⟩
    obtain ⟨z, g', c', hz, rfl, hr, n1, n2, hgr, hgl⟩ := hrows i hv hhv
    refine ⟨p, rfl, z, g', c', hz, ?_, hr, fun e => ?_, hgl⟩
    · have := h0.cellAt i (by omega)
      rw [this, hhv]
    · rcases e with e | e | e
      · omega
      · exact n1 e
      · exact n2 e
  refine ⟨A, c, rfl, fun i hi => ?_, key⟩
  obtain ⟨p, rfl, z, g, c', hz, hc, hr, _, _⟩ := key i hi
  exact ⟨p, 0, _, c', z, rfl, hz, by rw [Nat.zero_add]; exact hc, fun _ => ⟨g, 0, rfl, hr⟩⟩
def addS (e : Int) (log : List (List Int)) (cyc x : List Int) (cost : Int) : List (List Int) × List Int × Int :=
  if e = 0 then (match putL log cyc x cost with | .inl er => (log, cyc, er) | .inr p => (p.1, p.2, 0)) else (log, cyc, e)
/-- What an added entry leaves. -/
def AddTo (w : World) (r : Nat) (sb : Value) (at_ : Nat) (vl vc : Value) (s : List (List Int) × List Int × Int) (en : Ending) (w' : World) : Prop :=
  en = .returned (.tuple #[]) ∧ ∃ vl' vc', RdV w' r sb at_ s.1 s.2.1 vl' vc' s.2.2 ∧ Only (Own r vl vc) w w' ∧ (∀ q, Own r vl' vc' q → Own r vl vc q ∨ w.heap.size ≤ q)
theorem radd_any (w : World) (r : Nat) (sb : Value) (at_ : Nat) (log : List (List Int)) (cyc : List Int) (vl vc : Value) (e : Int) (bx ox cx : Nat) (x : List Int) (cost : Int) (h : RdV w r sb at_ log cyc vl vc e)
    (hx : w.rangeAt bx ox (icells x)) (h14 : x.length = 14) :
    Calls Try.prog 97 #[.pointer (some ⟨r, 0, none⟩), .slice (some ⟨bx, ox, none⟩) 14 cx, .int .i64 cost] w (AddTo w r sb at_ vl vc (addS e log cyc x cost)) := by
  by_cases he : e = 0
  · subst he
    by_cases hl : log.length = 4000
    · have e1 : addS 0 log cyc x cost = (log, cyc, 4) := by unfold addS putL; rw [if_pos rfl, if_pos hl]
      rw [e1]
      refine (radd_full w r sb at_ log cyc vl vc _ cost h hl).mono fun en w' ⟨h1, h2, h3⟩ => ⟨h1, vl, vc, h2, h3.mono (fun q _ hq => Or.inl hq), fun q hq => Or.inl hq⟩
    · have e1 : addS 0 log cyc x cost = (log ++ [x], cyc ++ [cost], 0) := by unfold addS putL; rw [if_pos rfl, if_neg hl]
      rw [e1]
      exact radd_ok w r sb at_ log cyc vl vc bx ox cx x cost h (by have := h.le4; omega) hx h14
  · have e1 : addS e log cyc x cost = (log, cyc, e) := by unfold addS; rw [if_neg he]
    rw [e1]
    refine (radd_err w r sb at_ log cyc vl vc e _ cost h he).mono fun en w' ⟨h1, h2⟩ => ⟨h1, vl, vc, by rw [h2]; exact h, by rw [h2]; exact Only.refl _ _, fun q hq => Or.inl hq⟩
/-- The last entry, by itself or a row of the log. -/
def LastTo (w : World) (r : Nat) (vl vc : Value) (z : List Int) (en : Ending) (w' : World) : Prop :=
  ∃ g c, en = .returned (.slice (some ⟨g, 0, none⟩) 14 c) ∧ w'.rangeAt g 0 (icells z) ∧ ¬ Own r vl vc g ∧ g < w'.heap.size ∧ Below w.heap.size w w'
set_option maxHeartbeats 4000000 in
set_option maxRecDepth 100000 in
theorem rentry_any (w : World) (r : Nat) (sb : Value) (at_ : Nat) (log : List (List Int)) (cyc : List Int) (A : Option Addr) (c : Nat) (vc : Value) (e : Int) (h : RdV w r sb at_ log cyc (.slice A log.length c) vc e) (k : Nat) (hk : k ≤ log.length) :
    Calls Try.prog 71 #[.slice A log.length c, .int .i64 ((k : Int) - 1)] w (LastTo w r (.slice A log.length c) vc (prev log k)) := by
  have HH := hid h
  by_cases h0 : k = 0
  · subst h0
    clear h
    obtain ⟨i0, hi, hz0, hz1, hz2⟩ := info_parts info3
    have HI := hid hi; have HZ0 := hid hz0; have HZ1 := hid hz1; have HZ2 := hid hz2; clear hi hz0 hz1 hz2
    go_enter Try.func71, Try.ntmps71
    go_wp2_with (first | (at_make; refine wpList_make_rows rfl _ _ 61 rfl 3 i0 _ 1 Try.underlying61 HI.out HZ0.out HZ1.out .i64 .i64 14 rfl rfl (by rw [HZ2.out]; omega) (by omega) ?_))
    go_ret
    refine ⟨_, _, rfl, ?_, fun e => by have := (HH.out.own_ge _ e).2; omega, by simp, Below.grow (Below.refl _ _) _⟩
    have h := range_made w (madeCells (Value.int .i64 0).cells (14 * 1)) 3
    have e : (madeCells (Value.int .i64 0).cells (14 * 1)).toList = icells (prev log 0) := by kernel_rfl
    rw [e] at h
    exact h
  · obtain ⟨A', c', e', hlog, key⟩ := h.log
    cases e'
    obtain ⟨p, rfl, z, g, c'', hz, hc, hr, hn, hg⟩ := key (k - 1) (by omega)
    have hl : z.length = 14 := h.len z (List.mem_of_getElem? hz)
    have hp : prev log k = z := by unfold prev; rw [if_neg h0, List.getD, hz]; rfl
    rw [hl] at hc
    rw [hp]
    have HR := hid hr; have HN := hid hn; have HG := hid hg
    clear hlog key hr hn hg hp hz h
    have h1 : decide ((k : Int) - 1 < 0) = false := decide_eq_false (by omega)
    have hi0 : (0 : Int) ≤ (k : Int) - 1 := by omega
    have hi1 : (k : Int) - 1 < (log.length : Int) := by omega
    have hin : ((k : Int) - 1).toNat = k - 1 := by omega
    have H0 := hid h0; clear h0
    go_enter Try.func71, Try.ntmps71
    go_wp2
    go_ret
    exact ⟨_, _, rfl, HR.out, HN.out, HG.out, Below.refl _ _⟩
/-- What a command leaves: an error, or a reader further on. -/
def IsR (res : Rd St) (at_ : Nat) (log : List (List Int)) (cyc : List Int) (e : Int) : Prop :=
  match res with
  | .inl er => e = er
  | .inr s => s = (at_, log, cyc) ∧ e = 0
def CmdTo (w : World) (r : Nat) (sb vl vc : Value) (b : List Int) (res : Rd St) (en : Ending) (w' : World) : Prop :=
  en = .returned (.tuple #[]) ∧ ∃ at_ log cyc vl' vc' e, RdV w' r sb at_ log cyc vl' vc' e ∧ at_ ≤ b.length ∧ IsR res at_ log cyc e ∧ Only (Own r vl vc) w w' ∧ (∀ q, Own r vl' vc' q → Own r vl vc q ∨ w.heap.size ≤ q)
theorem CmdTo.from {w w2 w3 : World} {r : Nat} {sb vl vc : Value} {b : List Int} {res : Rd St} {en : Ending} (h : CmdTo w2 r sb vl vc b res en w3) (k : Only (Own r vl vc) w w2) : CmdTo w r sb vl vc b res en w3 := by
  obtain ⟨h1, at_, log, cyc, vl', vc', e, h2, h3, h4, h5, h6⟩ := h
  exact ⟨h1, at_, log, cyc, vl', vc', e, h2, h3, h4, k.trans h5 (fun q hq => Or.inl hq), fun q hq => (h6 q hq).imp id (fun h => Nat.le_trans k.size h)⟩
end Go.Proofs.Ytjefhconahdbiaa
