/- What an effect does again without its parameter: the plain part of DialectRecalls. -/
import Derived.Test.YtkpielgdfahanaaGreatPRes
namespace Go.Proofs.YtkpielgdfahanaaGreat
open Go.RowKit

/-- An effect that only reads: what it asks for depends on the memory and the parameter alone. -/
def Reads (E : Eff) : Prop := ∀ s t : St, s.M = t.M → s.p = t.p → s.h = t.h → s.l = t.l → ∃ L, (runE E s).O = s.O ++ L ∧ (runE E t).O = t.O ++ L ∧ (runE E s).M = s.M ∧ (runE E t).M = t.M
theorem reads_one {E : Eff} (f : St → Int × Int × Int) (h : ∀ s, runE E s = s.ask (f s).1 (f s).2.1 (f s).2.2) (hf : ∀ s t : St, s.M = t.M → s.p = t.p → s.h = t.h → s.l = t.l → f s = f t) : Reads E := fun s t h1 h2 h3 h4 => by
  refine ⟨[f s], ?_, ?_, ?_, ?_⟩
  · rw [h]; rfl
  · rw [h, hf s t h1 h2 h3 h4]; rfl
  · rw [h]; rfl
  · rw [h]; rfl
theorem reads_none {E : Eff} (h : ∀ s, runE E s = s) : Reads E := fun s t _ _ _ _ => ⟨[], by rw [h]; simp, by rw [h]; simp, by rw [h], by rw [h]⟩
theorem reads_param (n : Int) : Reads (.param n) := reads_one (fun s => (n, s.p, 0)) (fun _ => rfl) (fun s t _ h2 _ _ => by rw [h2])
theorem reads_both (n : Int) : Reads (.both n) := reads_one (fun s => (n, s.h, s.l)) (fun _ => rfl) (fun s t _ _ h3 h4 => by rw [h3, h4])
theorem reads_low (n : Int) : Reads (.lowHalf n) := reads_one (fun s => (n, s.l, 0)) (fun _ => rfl) (fun s t _ _ h3 h4 => by rw [h4])
theorem reads_wave (n : Int) : Reads (.wave n) := reads_one (fun s => (n, s.l % 4, 0)) (fun _ => rfl) (fun s t _ _ h3 h4 => by rw [h4])
theorem reads_nil : Reads .nil := reads_none fun _ => rfl
theorem ite_ext {c : Prop} [Decidable c] {A B A' B' : St} {M : List Int} {p h l : Int} {O : List (Int × Int × Int)} (h1 : A = ⟨M, p, h, l, O ++ A'.O⟩) (h2 : B = ⟨M, p, h, l, O ++ B'.O⟩) : (if c then A else B) = ⟨M, p, h, l, O ++ (if c then A' else B').O⟩ := by
  split
  · exact h1
  · exact h2
theorem fn_ext (f : Nat) (M : List Int) (p h l : Int) (O : List (Int × Int × Int)) : fnE f ⟨M, p, h, l, O⟩ = ⟨M, p, h, l, O ++ (fnE f ⟨M, p, h, l, []⟩).O⟩ := by
  have a0 : (⟨M, p, h, l, O⟩ : St) = ⟨M, p, h, l, O ++ (⟨M, p, h, l, []⟩ : St).O⟩ := by simp
  have a1 : ∀ x y z, (⟨M, p, h, l, O⟩ : St).ask x y z = ⟨M, p, h, l, O ++ ((⟨M, p, h, l, []⟩ : St).ask x y z).O⟩ := fun x y z => rfl
  have a2 : ∀ x y z a b c, ((⟨M, p, h, l, O⟩ : St).ask x y z).ask a b c = ⟨M, p, h, l, O ++ (((⟨M, p, h, l, []⟩ : St).ask x y z).ask a b c).O⟩ := fun x y z a b c => by
    show St.mk M p h l ((O ++ [(x, y, z)]) ++ [(a, b, c)]) = St.mk M p h l (O ++ (([] ++ [(x, y, z)]) ++ [(a, b, c)]))
    simp
  unfold fnE slideE bendE
  repeat' (first | exact a0 | exact a1 _ _ _ | exact a2 _ _ _ _ _ _ | refine ite_ext ?_ ?_)
theorem reads_fn (f : Nat) : Reads (.fn f) := fun s t h1 h2 h3 h4 => by
  obtain ⟨M, p, h, l, O⟩ := s
  obtain ⟨M', p', h', l', O'⟩ := t
  simp only at h1 h2 h3 h4
  subst h1 h2 h3 h4
  show ∃ L, (fnE f ⟨M, p, h, l, O⟩).O = O ++ L ∧ (fnE f ⟨M, p, h, l, O'⟩).O = O' ++ L ∧ (fnE f ⟨M, p, h, l, O⟩).M = M ∧ (fnE f ⟨M, p, h, l, O'⟩).M = M
  rw [fn_ext f M p h l O, fn_ext f M p h l O']
  exact ⟨_, rfl, rfl, rfl, rfl⟩
theorem reads_upd {G : Int → Eff} {k : Int} {e : Eff} (hG : ∀ x, Reads (G x)) (he : Reads e) : ∀ x, Reads (upd G k e x) := fun x => by
  unfold upd
  split
  · exact he
  · exact hG x
theorem reads_timed (n : Int) : ∀ x, Reads (timedE n x) := fun x => by
  unfold timedE
  repeat' split
  all_goals first | exact reads_low _ | exact reads_nil
theorem reads_screamS : ∀ x, Reads (screamS x) := reads_upd (reads_upd (reads_upd (reads_upd (reads_upd (reads_timed 11) (reads_fn _)) (reads_fn _)) (reads_wave _)) (reads_wave _)) (reads_fn _)
theorem reads_impS : ∀ x, Reads (impS x) := reads_upd (reads_upd (reads_upd (reads_upd (reads_upd (reads_timed 11) (reads_wave _)) (reads_wave _)) (reads_fn _)) (reads_fn _)) (reads_fn _)
theorem reads_byHigh {g : Int → Eff} (hg : ∀ x, Reads (g x)) : Reads (.byHigh g) := fun s t h1 h2 h3 h4 => by
  have := hg s.h s t h1 h2 h3 h4
  show ∃ L, (runE (g s.h) s).O = s.O ++ L ∧ (runE (g t.h) t).O = t.O ++ L ∧ (runE (g s.h) s).M = s.M ∧ (runE (g t.h) t).M = t.M
  rw [← h3]; exact this
/-- The effects that take their parameter whole from a slot. -/
def wholeL (d : Int) : List Nat := if d = 1 then [51, 57] else if d = 2 then [68, 69, 70, 71, 73, 74, 75, 76, 79, 81, 82, 83] else if d = 3 then [49, 50, 51, 53, 54, 57, 65, 72, 80, 84] else if d = 4 then [68, 69, 70, 71, 73, 74, 75, 76, 78, 79, 80, 81, 83, 84, 87] else if d = 6 then [49, 50, 51, 65] else []
theorem whole_1 : ∀ c ∈ [51, 57], ∃ k E, dialG 1 ((c : Nat) : Int) = .wholly k E ∧ 0 ≤ k ∧ k < 24 ∧ Reads E := by
  intro c hc
  simp only [List.mem_cons, List.not_mem_nil, or_false] at hc
  rcases hc with rfl | rfl
  all_goals exact ⟨_, _, rfl, by decide, by decide, by first | exact reads_param _ | exact reads_both _ | exact reads_fn _ | exact reads_byHigh reads_screamS | exact reads_byHigh reads_impS⟩
theorem whole_2 : ∀ c ∈ [68, 69, 70, 71, 73, 74, 75, 76, 79, 81, 82, 83], ∃ k E, dialG 2 ((c : Nat) : Int) = .wholly k E ∧ 0 ≤ k ∧ k < 24 ∧ Reads E := by
  intro c hc
  simp only [List.mem_cons, List.not_mem_nil, or_false] at hc
  rcases hc with rfl | rfl | rfl | rfl | rfl | rfl | rfl | rfl | rfl | rfl | rfl | rfl
  all_goals exact ⟨_, _, rfl, by decide, by decide, by first | exact reads_param _ | exact reads_both _ | exact reads_fn _ | exact reads_byHigh reads_screamS | exact reads_byHigh reads_impS⟩
theorem whole_3 : ∀ c ∈ [49, 50, 51, 53, 54, 57, 65, 72, 80, 84], ∃ k E, dialG 3 ((c : Nat) : Int) = .wholly k E ∧ 0 ≤ k ∧ k < 24 ∧ Reads E := by
  intro c hc
  simp only [List.mem_cons, List.not_mem_nil, or_false] at hc
  rcases hc with rfl | rfl | rfl | rfl | rfl | rfl | rfl | rfl | rfl | rfl
  all_goals exact ⟨_, _, rfl, by decide, by decide, by first | exact reads_param _ | exact reads_both _ | exact reads_fn _ | exact reads_byHigh reads_screamS | exact reads_byHigh reads_impS⟩
theorem whole_4 : ∀ c ∈ [68, 69, 70, 71, 73, 74, 75, 76, 78, 79, 80, 81, 83, 84, 87], ∃ k E, dialG 4 ((c : Nat) : Int) = .wholly k E ∧ 0 ≤ k ∧ k < 24 ∧ Reads E := by
  intro c hc
  simp only [List.mem_cons, List.not_mem_nil, or_false] at hc
  rcases hc with rfl | rfl | rfl | rfl | rfl | rfl | rfl | rfl | rfl | rfl | rfl | rfl | rfl | rfl | rfl
  all_goals exact ⟨_, _, rfl, by decide, by decide, by first | exact reads_param _ | exact reads_both _ | exact reads_fn _ | exact reads_byHigh reads_screamS | exact reads_byHigh reads_impS⟩
theorem whole_6 : ∀ c ∈ [49, 50, 51, 65], ∃ k E, dialG 6 ((c : Nat) : Int) = .wholly k E ∧ 0 ≤ k ∧ k < 24 ∧ Reads E := by
  intro c hc
  simp only [List.mem_cons, List.not_mem_nil, or_false] at hc
  rcases hc with rfl | rfl | rfl | rfl
  all_goals exact ⟨_, _, rfl, by decide, by decide, by first | exact reads_param _ | exact reads_both _ | exact reads_fn _ | exact reads_byHigh reads_screamS | exact reads_byHigh reads_impS⟩
theorem wholeL_any {d : Int} {c : Nat} (h : c ∈ wholeL d) : ∃ k E, dialG d (c : Int) = .wholly k E ∧ 0 ≤ k ∧ k < 24 ∧ Reads E := by
  unfold wholeL at h
  split at h
  · rename_i e; subst e; exact whole_1 c h
  split at h
  · rename_i e; subst e; exact whole_2 c h
  split at h
  · rename_i e; subst e; exact whole_3 c h
  split at h
  · rename_i e; subst e; exact whole_4 c h
  split at h
  · rename_i e; subst e; exact whole_6 c h
  · cases h
/-- An effect takes its parameter whole from a slot. -/
def wholeB (d e : Int) : Bool := (wholeL d).any fun c => if c ≤ 57 then decide (e = (c : Int) - 47) else decide (e = (c : Int) - 54)
theorem wholeB_letter {d e : Int} (h : wholeB d e = true) : ∃ c : Nat, c ∈ wholeL d ∧ letN e = (c : Int) ∧ 1 ≤ e := by
  unfold wholeB at h
  rw [List.any_eq_true] at h
  obtain ⟨c, hc, hh⟩ := h
  have hr : 48 ≤ c ∧ (c ≤ 57 ∨ 65 ≤ c) := by
    have all : ∀ d' : Int, ∀ x ∈ wholeL d', 48 ≤ x ∧ (x ≤ 57 ∨ 65 ≤ x) := by
      intro d' x hx
      unfold wholeL at hx
      repeat' split at hx
      all_goals simp at hx
      all_goals omega
    exact all d c hc
  refine ⟨c, hc, ?_, ?_⟩
  · unfold letN
    split at hh
    · have := of_decide_eq_true hh; rw [if_pos (by omega)]; omega
    · have := of_decide_eq_true hh; rw [if_neg (by omega)]; omega
  · split at hh
    · have := of_decide_eq_true hh; omega
    · have := of_decide_eq_true hh; omega
theorem wholeB_5 (e : Int) : wholeB 5 e = false := rfl
/-- An effect that was told with a parameter is asked for again without one. -/
theorem again {d note e p : Int} {M : List Int} (hM : M.length = 26) (hw : wholeB d e = true) (hp : p ≠ 0) :
    (askX d note e 0 0 0 (askX d note e p 0 0 M).M).O = (askX d note e p 0 0 M).O ∧ (askX d note e 0 0 0 (askX d note e p 0 0 M).M).M = (askX d note e p 0 0 M).M := by
  have hd : d ≠ 5 := fun h => by rw [h, wholeB_5] at hw; cases hw
  obtain ⟨c, hc, hl, he⟩ := wholeB_letter hw
  obtain ⟨k, E, hG, hk0, hk1, hR⟩ := wholeL_any hc
  have h0 : 0 < e := by omega
  have hv : ¬ (0 : Int) < 0 := by omega
  have hX : ∀ (q : Int) (N : List Int), askX d note e q 0 0 N = runE E (((st0 N).put q).whole k.toNat) := fun q N => by
    unfold askX effX colX
    rw [if_neg hd, if_neg hv, if_pos h0, hl, hG]
    rfl
  obtain ⟨A, hA⟩ : ∃ A : St, A = ((st0 M).put p).whole k.toNat := ⟨_, rfl⟩
  have hAM : A.M = M.set k.toNat p := by
    rw [hA]; unfold St.whole St.wholeP
    rw [if_neg (show ((st0 M).put p).p ≠ 0 from hp)]; rfl
  have hA2 : A = ⟨M.set k.toNat p, p, p / 16, p % 16, []⟩ := by
    rw [hA]; unfold St.whole St.wholeP
    rw [if_neg (show ((st0 M).put p).p ≠ 0 from hp)]; rfl
  have hself := hR A A rfl rfl rfl rfl
  obtain ⟨L, h1, _, h3, _⟩ := hself
  have e1 : askX d note e p 0 0 M = runE E A := by rw [hX, hA]
  have e2 : (askX d note e p 0 0 M).M = M.set k.toNat p := by rw [e1, h3, hAM]
  have e3 : askX d note e 0 0 0 (askX d note e p 0 0 M).M = runE E A := by
    rw [hX, e2]
    congr 1
    have hs : ((st0 (M.set k.toNat p)).put 0).slot k.toNat = p := by
      show (M.set k.toNat p).getD k.toNat 0 = p
      rw [St.slot_set (by rw [hM]; omega), if_pos rfl]
    unfold St.whole St.wholeP
    rw [if_pos (show ((st0 (M.set k.toNat p)).put 0).p = 0 from rfl), hs, hA2]
    show St.mk ((M.set k.toNat p).set k.toNat p) p (p / 16) (p % 16) [] = _
    rw [List.set_set]
  rw [e3, e1]
  exact ⟨rfl, rfl⟩
theorem memB_of {M : List Int} (h : ∀ k, k < 24 → 0 ≤ M.getD k 0 ∧ M.getD k 0 ≤ 255) (h1 : 0 ≤ M.getD 24 0 ∧ M.getD 24 0 ≤ 36) (h2 : 0 ≤ M.getD 25 0 ∧ M.getD 25 0 ≤ 255) : memB M = true := by
  unfold memB
  rw [(slotsB_iff M).2 h, (inr_iff _ _ _).2 h1, (inr_iff _ _ _).2 h2]; rfl
theorem askX_mem {d note inst e p vc va : Int} {M : List Int} (m : MemOk M) (c : CellOk d note inst vc va e p) (hd : d ≠ 5) (hv : ¬ 0 < vc) : memB (askX d note e p vc va M).M = true := by
  have h := askX_left (note := note) m c
  have he : (askX d note e p vc va M).M.getD 24 0 = M.getD 24 0 ∧ (askX d note e p vc va M).M.getD 25 0 = M.getD 25 0 := by
    unfold askX effX colX
    rw [if_neg hd, if_neg hv]
    split
    · have hm0 : Mid (st0 M) := ⟨m.len, m.slots, Nat.zero_le _⟩
      exact (runE_left (dialG d (letN e)) (dialG_wf _ _) (hm0.put c.p.1 c.p.2)).eff
    · exact ⟨rfl, rfl⟩
  exact memB_of h.2.1 (by rw [he.1]; exact m.eff) (by rw [he.2]; exact m.par)
end Go.Proofs.YtkpielgdfahanaaGreat
