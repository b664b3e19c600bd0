/- The two effects that awake asks for: scream's D and fast's 1, run as function values. -/
import Derived.Test.YtkpielgdfahanaaGreatAskOp
import Derived.StillTailTactics
/- What the effects of scream's D and fast's 1 do. -/
namespace Go.Proofs.YtkpielgdfahanaaGreat
open Go.RowKit Go.Maps

set_option maxHeartbeats 2000000 in
theorem param_run (b base : Nat) (L : List Int) (v : Value) (rc : Bool) (n : Nat) (cs : List Value) (c : Nat) (kind : Int) (w : World) (h : Asks b base L v rc n cs w) (hn : n ≤ 50) (hB : base ≤ w.heap.size)
    (hc : w.cell? ⟨c, 0, none⟩ = some (.int .i64 kind)) :
    Calls Tryz.prog 131 #[.pointer (some ⟨b, 0, none⟩), .pointer (some ⟨c, 0, none⟩)] w fun e w' => e = .returned (.tuple #[]) ∧ ∃ v', Asks b base L v' rc (n + 1) (cs ++ opC kind (L.getD 27 0) 0) w' ∧ Steps b v v' w w' := by
  have c27 := h.at_.num (k := 27) (by omega)
  have H := hid h
  have HB := hid hB
  have HN := hid hn
  clear h hB hn
  go_enter Tryz.func131, Tryz.ntmps131
  go_wp2
  go_still_tail 6, (by kernel_rfl)
  change wpList _ _ _ _ _ w.drew
  have HD : Hid (Asks b base L v rc n cs w.drew) := hid ⟨H.out.at_, H.out.own, H.out.ne⟩
  go_wp2_with fail
  go_at_call 63
  refine (ask_any b base L v rc n cs _ _ _ _ HD.out HN.out HB.out).mono ?_
  rintro e w1 ⟨rfl, v', h1, h2⟩
  have H1 := hid h1
  have H2 := hid h2
  clear h1 h2
  go_wp2
  go_end0
  exact ⟨rfl, v', H1.out, ⟨H2.out.os, H2.out.tape, H2.out.output, H2.out.size, H2.out.block, H2.out.own⟩⟩
end Go.Proofs.YtkpielgdfahanaaGreat
/- What slide does, and an effect whose parameter is recalled from a slot. -/
namespace Go.Proofs.YtkpielgdfahanaaGreat
open Go.RowKit Go.Maps

/-- What a slide asks for. -/
def slideC (h l : Int) : List Value := if l = 15 ∧ h ≠ 0 then opC 13 h 0 else if h = 15 ∧ l ≠ 0 then opC 14 l 0 else opC 12 h l
set_option maxHeartbeats 2000000 in
set_option maxRecDepth 100000 in
theorem slide_plain (b base : Nat) (L : List Int) (v : Value) (rc : Bool) (n : Nat) (cs : List Value) (w : World) (h : Asks b base L v rc n cs w) (hn : n ≤ 50) (hB : base ≤ w.heap.size)
    (h1 : ¬ (L.getD 29 0 = 15 ∧ L.getD 28 0 ≠ 0)) (h2 : ¬ (L.getD 28 0 = 15 ∧ L.getD 29 0 ≠ 0)) :
    Calls Tryz.prog 105 #[.pointer (some ⟨b, 0, none⟩)] w fun e w' => e = .returned (.tuple #[]) ∧ ∃ v', Asks b base L v' rc (n + 1) (cs ++ opC 12 (L.getD 28 0) (L.getD 29 0)) w' ∧ Steps b v v' w w' := by
  have c28 := h.at_.num (k := 28) (by omega)
  have c29 := h.at_.num (k := 29) (by omega)
  have H := hid h
  have HB := hid hB
  have HN := hid hn
  clear h hB hn
  generalize L.getD 28 0 = x at *
  generalize L.getD 29 0 = y at *
  by_cases e1 : y = 15
  · have e2 : x = 0 := Decidable.byContradiction fun e => h1 ⟨e1, e⟩
    subst e1; subst e2
    clear h1 h2
    go_enter Tryz.func105, Tryz.ntmps105
    go_wp2
    go_still_tail 9, (by kernel_rfl)
    change wpList _ _ _ _ _ w.drew
    have HD : Hid (Asks b base L v rc n cs w.drew) := hid ⟨H.out.at_, H.out.own, H.out.ne⟩
    go_wp2_with fail
    go_at_call 63
    refine (ask_any b base L v rc n cs _ _ _ _ HD.out HN.out HB.out).mono ?_
    rintro e w1 ⟨rfl, v', h1, h2⟩
    have H1 := hid h1
    have H2 := hid h2
    clear h1 h2
    go_wp2
    go_end0
    exact ⟨rfl, v', H1.out, ⟨H2.out.os, H2.out.tape, H2.out.output, H2.out.size, H2.out.block, H2.out.own⟩⟩
  · have e1' : (y == 15) = false := beq_eq_false_iff_ne.2 e1
    by_cases e3 : x = 15
    · have e4 : y = 0 := Decidable.byContradiction fun e => h2 ⟨e3, e⟩
      subst e3; subst e4
      clear h1 h2 e1 e1'
      go_enter Tryz.func105, Tryz.ntmps105
      go_wp2
      go_still_tail 9, (by kernel_rfl)
      change wpList _ _ _ _ _ w.drew
      have HD : Hid (Asks b base L v rc n cs w.drew) := hid ⟨H.out.at_, H.out.own, H.out.ne⟩
      go_wp2_with fail
      go_at_call 63
      refine (ask_any b base L v rc n cs _ _ _ _ HD.out HN.out HB.out).mono ?_
      rintro e w1 ⟨rfl, v', h1, h2⟩
      have H1 := hid h1
      have H2 := hid h2
      clear h1 h2
      go_wp2
      go_end0
      exact ⟨rfl, v', H1.out, ⟨H2.out.os, H2.out.tape, H2.out.output, H2.out.size, H2.out.block, H2.out.own⟩⟩
    · have e3' : (x == 15) = false := beq_eq_false_iff_ne.2 e3
      clear h1 h2 e1 e3
      go_enter Tryz.func105, Tryz.ntmps105
      go_wp2
      go_still_tail 9, (by kernel_rfl)
      change wpList _ _ _ _ _ w.drew
      have HD : Hid (Asks b base L v rc n cs w.drew) := hid ⟨H.out.at_, H.out.own, H.out.ne⟩
      go_wp2_with fail
      go_at_call 63
      refine (ask_any b base L v rc n cs _ _ _ _ HD.out HN.out HB.out).mono ?_
      rintro e w1 ⟨rfl, v', h1, h2⟩
      have H1 := hid h1
      have H2 := hid h2
      clear h1 h2
      go_wp2
      go_end0
      exact ⟨rfl, v', H1.out, ⟨H2.out.os, H2.out.tape, H2.out.output, H2.out.size, H2.out.block, H2.out.own⟩⟩

theorem one_cell {p : Nat → Prop} {w : World} {c : Nat} {x : Value} (h : One p w c x) : w.cell? ⟨c, 0, none⟩ = some x := by
  obtain ⟨_, ty, h⟩ := h
  rw [cell_of_row w c 0 _ ty (0, 0) h]
  rfl
theorem One.across {p : Nat → Prop} {w w' : World} {b c : Nat} {x : Value} (h : One p w c x) (hg : w.grownBy w' (some b)) (hne : c ≠ b) : One p w' c x := by
  obtain ⟨hp, ty, h⟩ := h
  exact ⟨hp, ty, (hg.block c (Array.getElem?_eq_some_iff.1 h).1 (fun e => hne (by injection e))).trans h⟩
theorem ne_one {p : Nat → Prop} {w : World} {b c : Nat} {L : List Int} {v x : Value} {rc : Bool} (h : One p w c x) (a : AskAt b L v rc w) : c ≠ b := fun e => by
  obtain ⟨_, ty, h⟩ := h
  have h2 := a.2
  rw [← e, h] at h2
  have := congrArg (fun o => match o with | some (Obj.cells cs _ _) => cs.size | _ => 0) h2
  have hl := a.1
  simp [hl] at this
end Go.Proofs.YtkpielgdfahanaaGreat
namespace Go.Proofs.YtkpielgdfahanaaGreat
open Go.RowKit Go.Maps

theorem Asks.grown {b base : Nat} {L L' : List Int} {v : Value} {rc rc' : Bool} {n : Nat} {cs : List Value} {w w' : World} (h : Asks b base L v rc n cs w) (ha : AskAt b L' v rc' w') (hg : w.grownBy w' (some b)) : Asks b base L' v rc' n cs w' :=
  ⟨ha, h.own.kept hg (Or.inr h.ne), h.ne⟩
theorem Steps.of_grown {b : Nat} (v : Value) {w w' : World} (hg : w.grownBy w' (some b)) : Steps b v v w w' := Steps.grown (Steps.refl b v w) hg
set_option maxHeartbeats 2000000 in
theorem wholly_slide (p : Nat → Prop) (b base : Nat) (L : List Int) (v : Value) (rc : Bool) (n : Nat) (cs : List Value) (c d k : Nat) (w : World) (h : Asks b base L v rc n cs w) (hn : n ≤ 50) (hB : base ≤ w.heap.size)
    (hc : One p w c (.int .i64 k)) (hd : One p w d (.func (.func 105) #[] #[])) (hk : k < 24) (s0 : 0 ≤ L.getD k 0) (s1 : L.getD k 0 ≤ 255)
    (h1 : ¬ ((wholeA L k).getD 29 0 = 15 ∧ (wholeA L k).getD 28 0 ≠ 0)) (h2 : ¬ ((wholeA L k).getD 28 0 = 15 ∧ (wholeA L k).getD 29 0 ≠ 0)) :
    Calls Tryz.prog 132 #[.pointer (some ⟨b, 0, none⟩), .pointer (some ⟨c, 0, none⟩), .pointer (some ⟨d, 0, none⟩)] w fun e w' => e = .returned (.tuple #[]) ∧
      ∃ v', Asks b base (wholeA L k) v' (rc || decide (L.getD 27 0 = 0)) (n + 1) (cs ++ opC 12 ((wholeA L k).getD 28 0) ((wholeA L k).getD 29 0)) w' ∧ Steps b v v' w w' := by
  have cc := one_cell hc
  have H := hid h
  have HB := hid hB
  have HN := hid hn
  have HD := hid hd
  have HK := hid (And.intro hk (And.intro s0 s1))
  have H12 := hid (And.intro h1 h2)
  clear h hn hB hc hd hk s0 s1 h1 h2
  go_enter Tryz.func132, Tryz.ntmps132
  go_wp2_with fail
  go_at_call 70
  refine (whole_any b L v rc k _ H.out.at_ HK.out.1 HK.out.2.1 HK.out.2.2).mono ?_
  rintro e w1 ⟨rfl, ha, hg⟩
  have A1 := hid (Asks.grown H.out ha hg)
  have cd := one_cell (HD.out.across hg (ne_one HD.out H.out.at_))
  have HG := hid hg
  clear ha hg cc
  go_wp2_with fail
  go_at_call 105
  refine (slide_plain b base (wholeA L k) v _ n cs _ A1.out HN.out (by have := HB.out; have := HG.out.size; omega) H12.out.1 H12.out.2).mono ?_
  rintro e w2 ⟨rfl, v', h3, h4⟩
  have H3 := hid h3
  have H4 := hid h4
  clear h3 h4 cd
  go_wp2
  go_end0
  exact ⟨rfl, v', H3.out, Steps.trans (Steps.of_grown v HG.out) H4.out⟩
set_option maxHeartbeats 2000000 in
theorem wholly_param (p : Nat → Prop) (b base : Nat) (L : List Int) (v : Value) (rc : Bool) (n : Nat) (cs : List Value) (c d f k : Nat) (kind : Int) (w : World) (h : Asks b base L v rc n cs w) (hn : n ≤ 50) (hB : base ≤ w.heap.size)
    (hc : One p w c (.int .i64 k)) (hd : One p w d (.func (.func 131) #[] #[.pointer (some ⟨f, 0, none⟩)])) (hf : One p w f (.int .i64 kind)) (hk : k < 24) (s0 : 0 ≤ L.getD k 0) (s1 : L.getD k 0 ≤ 255) :
    Calls Tryz.prog 132 #[.pointer (some ⟨b, 0, none⟩), .pointer (some ⟨c, 0, none⟩), .pointer (some ⟨d, 0, none⟩)] w fun e w' => e = .returned (.tuple #[]) ∧
      ∃ v', Asks b base (wholeA L k) v' (rc || decide (L.getD 27 0 = 0)) (n + 1) (cs ++ opC kind ((wholeA L k).getD 27 0) 0) w' ∧ Steps b v v' w w' := by
  have cc := one_cell hc
  have H := hid h
  have HB := hid hB
  have HN := hid hn
  have HD := hid hd
  have HF := hid hf
  have HK := hid (And.intro hk (And.intro s0 s1))
  clear h hn hB hc hd hk s0 s1 hf
  go_enter Tryz.func132, Tryz.ntmps132
  go_wp2_with fail
  go_at_call 70
  refine (whole_any b L v rc k _ H.out.at_ HK.out.1 HK.out.2.1 HK.out.2.2).mono ?_
  rintro e w1 ⟨rfl, ha, hg⟩
  have A1 := hid (Asks.grown H.out ha hg)
  have cd := one_cell (HD.out.across hg (ne_one HD.out H.out.at_))
  have CF := hid (one_cell (HF.out.across hg (ne_one HF.out H.out.at_)))
  have HG := hid hg
  clear ha hg cc
  go_wp2_with fail
  go_at_call 131
  refine (param_run b base (wholeA L k) v _ n cs f kind _ A1.out HN.out (by have := HB.out; have := HG.out.size; omega) CF.out).mono ?_
  rintro e w2 ⟨rfl, v', h3, h4⟩
  have H3 := hid h3
  have H4 := hid h4
  clear h3 h4 cd
  go_wp2
  go_end0
  exact ⟨rfl, v', H3.out, Steps.trans (Steps.of_grown v HG.out) H4.out⟩
end Go.Proofs.YtkpielgdfahanaaGreat
