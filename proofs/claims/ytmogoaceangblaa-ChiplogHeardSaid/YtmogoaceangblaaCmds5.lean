/- chiplog's tape: entries that come again. -/
import Derived.Test.YtmogoaceangblaaCmds4
import Derived.StillTailTactics
namespace Go.Proofs.Ytmogoaceangblaa
open Go.RowKit

theorem still_load_mid {P : Program} {w : World} {a : Act} {o : Oper} {K : Act → Prop} (ty : TypeId) (x : Operand) (ho : o.op = .load ty x) (b off : Nat) (hx : a.eval x = .pointer (some ⟨b, off, none⟩))
    (cs : List Value) (d : TypeDesc) (hr : w.rangeAt b off cs) (hu : P.underlying ty = some d) (hd : d.isRow = true) (hi : (P.info? ty).map (·.size) = some cs.length)
    (hk : K (a.put o.dst (.agg cs.toArray))) : o.still P a w K := by
  unfold Oper.still execOp
  simp only [ho, hx, Instr.loadAt, Instr.sureAddr, Sem.run_bind, Sem.run_pure, Result.andThen_ok, run_loadVar_mid w b off ty cs d hr hu hd hi]
  exact ⟨rfl, hk⟩
def repeatS (b : List Int) (at_ : Nat) (log : List (List Int)) (cyc : List Int) (c : Int) : Rd St :=
  match b[at_]? with
  | none => .inl 12
  | some d => if d = 0 ∨ (log.length : Int) < d then .inl 9 else atS (at_ + 1) (repsL d.toNat (c - 191).toNat 18 log cyc)
set_option maxHeartbeats 4000000 in
set_option maxRecDepth 100000 in
theorem trepeats_go (w : World) (t : Nat) (A : Option Addr) (c : Nat) (b : List Int) (at_ : Nat) (log : List (List Int)) (cyc : List Int) (vl vc : Value) (cm d : Nat)
    (h : TapeV w t (.slice A b.length c) at_ log cyc vl vc) (hR : Reads w t A b) (hc : 193 ≤ cm) (hc2 : cm ≤ 255) (h1 : b[at_]? = some (d : Int)) (hd : 1 ≤ d) (hdl : d ≤ log.length) :
    Calls Try.prog 35 #[.pointer (some ⟨t, 0, none⟩), .int .i64 cm] w (TapeTo w t (.slice A b.length c) vl vc (atS (at_ + 1) (repsL d (cm - 191) 18 log cyc))) := by
  have HH := hid h; have HR := hid hR; have HV1 := hid h1
  have hr1 := hR.rng _ (List.mem_of_getElem? h1)
  clear h hR h1
  go_enter Try.func35, Try.ntmps35
  go_wp2_with fail
  refine (tnext_ok _ t A c b at_ log cyc _ vc d HH.out HR.out.bytes HR.out.sep HV1.out hr1 HR.out.le).mono ?_
  rintro e w1 ⟨rfl, ht1, ho1⟩
  obtain ⟨EA, ec, rfl, hE⟩ := ht1.ent
  have HT1 := hid ht1; have HO1 := hid ho1
  have hc2' := cell_of_cells (k := 2) ht1.blk rfl
  clear ht1 ho1 hE
  have hne : ((d : Int) == 0) = false := by rw [beq_eq_false_iff_ne]; omega
  have hgt : decide (log.length < d) = false := decide_eq_false (by omega)
  have hw1 : (cm : Int) - 193 + 2 = ((cm - 191 : Nat) : Int) := by omega
  go_wp2_with fail
  obtain ⟨m, hm⟩ : ∃ m : Nat, m = cm - 191 := ⟨_, rfl⟩
  rw [← hm]
  have hm6 : m ≤ 64 := by omega
  clear hm hw1 hne hgt hc2'
  go_loopw [5, 23] (fun v5 i wr => ∃ (k : Nat) (cost : Int) (vl' vc' : Value) (l' : List (List Int)) (c' : List Int), k ≤ m ∧ i = .int .i64 k ∧ v5 = .int .i64 cost ∧ d ≤ l'.length ∧ Hid (repsL d (m - k) cost l' c' = repsL d m 18 log cyc) ∧ Hid (TapeV wr t (.slice A b.length c) (at_ + 1) l' c' vl' vc') ∧ Hid (Only (Own t (.slice EA log.length ec) vc) w wr) ∧ Hid (∀ q, Own t vl' vc' q → Own t (.slice EA log.length ec) vc q ∨ w.heap.size ≤ q)) (fun _ i _ => m - (intOf i).toNat)
  case atStart => exact ⟨0, 18, _, _, log, cyc, Nat.zero_le _, rfl, rfl, hdl, hid rfl, HT1, HO1, hid (fun q hq => Or.inl hq)⟩
  case round =>
    obtain ⟨k, cost, vl', vc', l', c', hk, rfl, rfl, hdl', HU, HT, HO, HW⟩ := hrel
    by_cases hlt : k < m
    · obtain ⟨EB, eb, rfl, hE⟩ := HT.out.ent
      have hl4 := HT.out.le4
      obtain ⟨z, hz⟩ : ∃ z, l'[l'.length - d]? = some z := ⟨_, List.getElem?_eq_getElem (by omega)⟩
      obtain ⟨hzl, g, rfl, hrz⟩ := hE _ _ hz
      obtain ⟨p, hp⟩ : ∃ p : Nat, p = l'.length - d := ⟨_, rfl⟩
      have HSTEP : Hid (repsL d m 18 log cyc = match putL l' c' z cost with | .inl e => .inl e | .inr (l, c) => repsL d (m - (k + 1)) 10 l c) := hid (by
        rw [← HU.out, show m - k = (m - (k + 1)) + 1 by omega, repsL, List.getD, hz]
        rfl)
      have hwp : IntKind.i64.wrap ((l'.length : Int) - (d : Int)) = (p : Int) := by rw [IntKind.wrap_i64]; omega
      rw [← hp] at hrz
      have HZL := hid hzl; have HRZ := hid hrz; have HPP := hid hp
      have hp0 : (0 : Int) ≤ (p : Int) := by omega
      have hpl : (p : Int) < (l'.length : Int) := by omega
      have hsz : (Try.prog.info? 43).map (·.size) = some (icells z).length := by rw [icells_len, hzl]; exact size75
      have hu75 := Try.underlying43
      have hc2 := cell_of_cells (k := 2) HT.out.blk rfl
      have HZ := hid hz
      have HS : (fun w' : World => w'.cell? ⟨t, 2, none⟩ = some (.slice (some ⟨g, 0, none⟩) l'.length eb) ∧ w'.rangeAt g (p * 14) (icells z)) wr.drew := ⟨hc2, hrz⟩
      clear hE hz hzl hrz hp hc2
      go_wp2_with fail
      refine wp_region_still_tail 15 (by kernel_rfl) (by kernel_rfl) ?_
      simp only [List.take_succ_cons, List.take_zero, List.drop_succ_cons, List.drop_zero]
      have HRD : Hid (wr.drew.rangeAt g (p * 14) (icells z)) := HRZ
      have hc2 : wr.drew.cell? ⟨t, 2, none⟩ = some (.slice (some ⟨g, 0, none⟩) l'.length eb) := cell_of_cells (k := 2) HT.out.blk rfl
      have HTD : Hid (TapeV wr.drew t (.slice A b.length c) (at_ + 1) l' c' (.slice (some ⟨g, 0, none⟩) l'.length eb) vc') := hid (HT.out.below (Below.refl _ _).drew)
      have HOD : Hid (Only (Own t (.slice EA log.length ec) vc) w wr.drew) := hid (HO.out.drewN 1)
      obtain ⟨wd, hwd⟩ : ∃ z, z = wr.drew := ⟨_, rfl⟩
      have hww : ({ wr with drawn := wr.drawn + 1 } : World) = wd := hwd.symm
      rw [hww]
      rw [← hwd] at HRD hc2 HTD HOD
      clear HS hww hwd
      repeat (first
        | (refine wpStill_step (fun K hK => ?_); rw [if_pos (by rfl)]; refine still_load_mid 43 _ (by rfl) g (p * 14) (by rfl) (icells z) _ HRD.out Try.underlying43 rfl hsz ?_; (try simp only [Act.put, List.setIfInBounds_toArray, List.set_cons_zero, List.set_cons_succ]); refine hK _ ?_; clear hK K)
        | still_step)
      refine wpStill_nil ?_
      clear hsz hu75 hwp hc2
      go_wp2_with fail
      refine (tput_any _ t _ (at_ + 1) l' c' _ vc' z cost HTD.out HZL.out).mono ?_
      intro e w2 hto
      cases hp : putL l' c' z cost with
      | inl er =>
        have hp' : putS (at_ + 1) l' c' z cost = .inl er := by unfold putS; rw [hp]
        rw [hp'] at hto
        obtain ⟨rfl, ho⟩ := hto
        refine ⟨rfl, TapeTo.inl (er := er) ?_ (HOD.out.trans ho HW.out)⟩
        rw [HSTEP.out, hp]; rfl
      | inr s =>
        obtain ⟨l2, c2⟩ := s
        have hp' : putS (at_ + 1) l' c' z cost = .inr (at_ + 1, l2, c2) := by unfold putS; rw [hp]
        rw [hp'] at hto
        obtain ⟨rfl, vl2, vc2, ht2, ho, hw2⟩ := hto
        have hl2 : l2.length = l'.length + 1 := by
          unfold putL at hp
          split at hp
          · cases hp
          · cases hp; simp
        have HP := hid hp; have HT2 := hid ht2; have HO2 := hid ho; have HW2 := hid hw2
        clear hp hp' ht2 ho hw2
        go_wp2
        go_roundw
        case rel =>
          refine ⟨k + 1, 10, vl2, vc2, l2, c2, by omega, by go_num, rfl, by omega, hid (by rw [HSTEP.out, HP.out]), HT2, hid (HOD.out.trans HO2.out HW.out), hid (fun q hq => ?_)⟩
          rcases HW2.out q hq with h | h
          · exact HW.out q h
          · exact Or.inr (by have := HOD.out.size; omega)
        case measure => simp [intOf]; omega
    · obtain rfl : k = m := by omega
      have HRR : Hid (repsL d k 18 log cyc = .inr (l', c')) := hid (by rw [← HU.out, Nat.sub_self]; rfl)
      go_wp2
      go_end0
      unfold TapeTo
      rw [HRR.out]
      exact ⟨rfl, vl', vc', HT.out, HO.out, HW.out⟩
/-- What cmdL does, command by command. -/
theorem trepeats_any (w : World) (t : Nat) (A : Option Addr) (c : Nat) (b : List Int) (at_ : Nat) (log : List (List Int)) (cyc : List Int) (vl vc : Value) (cm : Nat)
    (h : TapeV w t (.slice A b.length c) at_ log cyc vl vc) (hR : Reads w t A b) (hat : at_ ≤ b.length) (hc : 193 ≤ cm) (hc2 : cm ≤ 255) :
    Calls Try.prog 35 #[.pointer (some ⟨t, 0, none⟩), .int .i64 cm] w (TapeTo w t (.slice A b.length c) vl vc (repeatS b at_ log cyc cm)) := by
  cases h1 : b[at_]? with
  | none =>
    have hea : at_ = b.length := by have := List.getElem?_eq_none_iff.1 h1; omega
    have hm : repeatS b at_ log cyc cm = .inl 12 := by unfold repeatS; rw [h1]
    subst hea
    have HH := hid h; have HM := hid hm; clear h hR h1 hm
    go_enter Try.func35, Try.ntmps35
    go_wp2_with fail
    refine (tnext_end _ t A c b log cyc vl vc HH.out).mono ?_
    rintro e w1 ⟨rfl, ho⟩
    exact ⟨rfl, TapeTo.inl HM.out ho⟩
  | some dv =>
    have hr1 := hR.rng _ (List.mem_of_getElem? h1)
    obtain ⟨d, rfl⟩ : ∃ d : Nat, dv = (d : Int) := ⟨dv.toNat, by omega⟩
    by_cases hd : 1 ≤ d ∧ d ≤ log.length
    · have e : repeatS b at_ log cyc cm = atS (at_ + 1) (repsL d (cm - 191) 18 log cyc) := by
        unfold repeatS; rw [h1]; simp only
        rw [if_neg (by omega), Int.toNat_natCast, show ((cm : Int) - 191).toNat = cm - 191 by omega]
      rw [e]
      exact trepeats_go w t A c b at_ log cyc vl vc cm d h hR hc hc2 h1 hd.1 hd.2
    · have hm : repeatS b at_ log cyc cm = .inl 9 := by
        unfold repeatS; rw [h1]; simp only
        rw [if_pos (by omega)]
      have HH := hid h; have HR := hid hR; have HM := hid hm; have HV1 := hid h1
      clear h hR hm h1
      have hgo : ∀ K : Prop, (d = 0 → K) → (((d : Int) == 0) = false → decide (log.length < d) = true → K) → K := fun K k1 k2 => by
        by_cases h0 : d = 0
        · exact k1 h0
        · exact k2 (by rw [beq_eq_false_iff_ne]; omega) (decide_eq_true (by omega))
      clear hd
      go_enter Try.func35, Try.ntmps35
      go_wp2_with fail
      refine (tnext_ok _ t A c b at_ log cyc vl vc d HH.out HR.out.bytes HR.out.sep HV1.out hr1 HR.out.le).mono ?_
      rintro e w1 ⟨rfl, ht1, ho1⟩
      obtain ⟨EA, ec, rfl, _⟩ := ht1.ent
      have hc2' := cell_of_cells (k := 2) ht1.blk rfl
      have HO1 := hid ho1
      clear ht1 ho1
      refine hgo _ (fun h0 => ?_) (fun h0 h1 => ?_)
      · subst h0
        clear hgo
        go_wp2
        exact ⟨rfl, TapeTo.inl HM.out HO1.out⟩
      · clear hgo
        go_wp2
        exact ⟨rfl, TapeTo.inl HM.out HO1.out⟩
end Go.Proofs.Ytmogoaceangblaa
