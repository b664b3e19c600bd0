/- The reference's Unpack and Cycles. -/
import Derived.Test.YtjefhconahdbiaaRd13
namespace Go.Proofs.Ytjefhconahdbiaa
open Go.RowKit

set_option maxHeartbeats 4000000 in
set_option maxRecDepth 100000 in
theorem runpack_any (w : World) (A : Option Addr) (cc : Nat) (b : List Int) (hA : BytesAt w A b) (hs : ∀ p o, A = some ⟨p, o, none⟩ → p < w.heap.size) (hr : ∀ v ∈ b, 0 ≤ v ∧ v < 256) (hl : b.length ≤ 400000) :
    Calls Try.prog 35 #[.slice A b.length cc] w (UnpackTo w (readAll b)) := by
  have HRD := hid (rread_any w A cc b hA hs hr hl)
  clear hA hs hr
  go_enter Try.func35, Try.ntmps35
  go_wp2_with fail
  refine HRD.out.mono ?_
  intro e w1 hto
  cases hp : readAll b with
  | inl er =>
    rw [hp] at hto
    obtain ⟨rfl, hb⟩ := hto
    have HB := hid hb; have HR := hid hp
    clear hb hp HRD
    go_wp2
    refine bodyPost_ret (results_tmp3 rfl _ _ _) rfl ?_
    unfold UnpackTo
    rw [HR.out]
    exact ⟨rfl, HB.out⟩
  | inr s =>
    obtain ⟨log, cyc, at_⟩ := s
    rw [hp] at hto
    obtain ⟨A1, c1, C1, d1, rfl, hlog, -, -, -, hb⟩ := hto
    have HB := hid hb; have HL := hid hlog; have HR := hid hp
    clear hb hlog hp HRD
    go_wp2
    refine bodyPost_ret (results_tmp3 rfl _ _ _) rfl ?_
    unfold UnpackTo
    rw [HR.out]
    exact ⟨A1, c1, rfl, HL.out, HB.out⟩
set_option maxHeartbeats 4000000 in
set_option maxRecDepth 100000 in
theorem rcycles_any (w : World) (A : Option Addr) (cc : Nat) (b : List Int) (hA : BytesAt w A b) (hs : ∀ p o, A = some ⟨p, o, none⟩ → p < w.heap.size) (hr : ∀ v ∈ b, 0 ≤ v ∧ v < 256) (hl : b.length ≤ 400000) :
    Calls Try.prog 37 #[.slice A b.length cc] w (CyclesTo w (readAll b)) := by
  have HRD := hid (rread_any w A cc b hA hs hr hl)
  clear hA hs hr
  go_enter Try.func37, Try.ntmps37
  go_wp2_with fail
  refine HRD.out.mono ?_
  intro e w1 hto
  cases hp : readAll b with
  | inl er =>
    have hne := readAll_ne hp
    rw [hp] at hto
    obtain ⟨rfl, hb⟩ := hto
    have hne' : (er != 0) = true := by simpa using hne
    have HB := hid hb; have HR := hid hp
    clear hb hp HRD hne
    go_wp2
    refine bodyPost_ret (results_tmp2 rfl _ _ _) rfl ?_
    unfold CyclesTo
    rw [HR.out]
    exact ⟨rfl, HB.out⟩
  | inr s =>
    obtain ⟨log, cyc, at_⟩ := s
    rw [hp] at hto
    obtain ⟨A1, c1, C1, d1, rfl, hlog, hown, heq, h4, hb⟩ := hto
    simp only at hown heq h4
    have HB := hid hb; have HO := hid hown; have HR := hid hp
    have hl4 : cyc.length ≤ 4000 := by omega
    clear hb hlog hp HRD heq h4
    by_cases h0 : cyc.length = 0
    · have HCE : Hid (cycEnd cyc = [4]) := hid (by unfold cycEnd; rw [if_pos h0])
      have h0' : ((cyc.length : Int) == 0) = true := by rw [h0]; rfl
      clear hl4 h0 hown
      go_wp2
      refine bodyPost_ret (results_tmp2 rfl _ _ _) rfl ?_
      unfold CyclesTo
      rw [HR.out]
      simp only
      rw [HCE.out]
      exact ⟨some ⟨w1.heap.size, 0, none⟩, 1, rfl, fun _ => ⟨_, 0, rfl, range_made w1 #[.int .i64 4] 3⟩, Below.grow HB.out _⟩
    · obtain ⟨C1', d1', e1, hC⟩ := owned_form hown
      cases e1
      obtain ⟨g, rfl, hge, hlt⟩ := hC (by omega)
      have hne : ((cyc.length : Int) == 0) = false := by rw [beq_eq_false_iff_ne]; omega
      obtain ⟨m, hm⟩ : ∃ m : Nat, m = cyc.length - 1 := ⟨_, rfl⟩
      obtain ⟨y, hy⟩ : ∃ y, cyc[m]? = some y := ⟨_, List.getElem?_eq_getElem (by omega)⟩
      have hrg := own_range HO.out
      have hcy : w1.cell? ⟨g, m, none⟩ = some (.int .i64 y) := by have := hrg m _ (icells_at hy); rwa [Nat.zero_add] at this
      have hfy : w1.frozen? ⟨g, m, none⟩ = false := HO.out.frozenAt m
      have hwm : IntKind.i64.wrap ((cyc.length : Int) - 1) = (m : Int) := by rw [IntKind.wrap_i64]; omega
      have hwm2 : (cyc.length : Int) - 1 = (m : Int) := by omega
      have hm0 : (0 : Int) ≤ (m : Int) := by omega
      have hml : (m : Int) < (cyc.length : Int) := by omega
      have HCE : Hid (cycEnd cyc = cyc.set m (IntKind.i64.wrap (y + 4))) := hid (by unfold cycEnd; rw [if_neg h0, ← hm, List.getD, hy]; rfl)
      have HRG := hid hrg; have HY := hid hy; have HG := hid hge
      clear hrg hy hm h0 hC hown
      go_wp2_with fail
      refine bodyPost_ret (results_tmp2 rfl _ _ _) rfl ?_
      unfold CyclesTo
      rw [HR.out]
      have hwr : wrap64 (y + 4) = IntKind.i64.wrap (y + 4) := by rw [IntKind.wrap_i64]; unfold wrap64; omega
      rw [hwr]
      simp only
      rw [HCE.out]
      refine ⟨some ⟨g, 0, none⟩, d1, by rw [List.length_set]; rfl, fun _ => ⟨g, 0, rfl, range_set HRG.out hcy⟩, HB.out.setCell (p := ⟨g, m, none⟩) HG.out _⟩
/-! What is read has at most 4000 entries of 14. -/
def Sound (log : List (List Int)) (cyc : List Int) : Prop := log.length ≤ 4000 ∧ (∀ z ∈ log, z.length = 14) ∧ cyc.length = log.length
theorem putL_sound {log : List (List Int)} {cyc x : List Int} {c : Int} {p : List (List Int) × List Int} (h : Sound log cyc) (hx : x.length = 14) (hp : putL log cyc x c = .inr p) : Sound p.1 p.2 := by
  unfold putL at hp
  split at hp
  · cases hp
  · cases hp
    refine ⟨by simp; have := h.1; omega, fun z hz => ?_, by simp [h.2.2]⟩
    rcases List.mem_append.1 hz with h1 | h1
    · exact h.2.1 z h1
    · simp at h1; rw [h1]; exact hx
theorem runsL_sound {x : List Int} (hx : x.length = 14) : ∀ (k : Nat) (log : List (List Int)) (cyc : List Int) (p : List (List Int) × List Int), Sound log cyc → runsL x k log cyc = .inr p → Sound p.1 p.2
  | 0, _, _, p, h, hp => by rw [runsL] at hp; cases hp; exact h
  | k + 1, log, cyc, p, h, hp => by
    rw [runsL] at hp
    cases hq : putL log cyc x 6 with
    | inl e => rw [hq] at hp; cases hp
    | inr q =>
      rw [hq] at hp
      exact runsL_sound hx k q.1 q.2 p (putL_sound h hx hq) hp
theorem repsL_sound {d : Nat} (hd : 1 ≤ d) : ∀ (k : Nat) (cost : Int) (log : List (List Int)) (cyc : List Int) (p : List (List Int) × List Int), d ≤ log.length → Sound log cyc → repsL d k cost log cyc = .inr p → Sound p.1 p.2
  | 0, _, _, _, p, _, h, hp => by rw [repsL] at hp; cases hp; exact h
  | k + 1, cost, log, cyc, p, hl, h, hp => by
    rw [repsL] at hp
    have hx : (log.getD (log.length - d) []).length = 14 := by
      rw [List.getD, List.getElem?_eq_getElem (by omega)]
      exact h.2.1 _ (List.getElem_mem _)
    cases hq : putL log cyc (log.getD (log.length - d) []) cost with
    | inl e => rw [hq] at hp; cases hp
    | inr q =>
      rw [hq] at hp
      have hl2 : log.length ≤ q.1.length := by
        unfold putL at hq
        split at hq
        · cases hq
        · cases hq; simp
      exact repsL_sound hd k 10 q.1 q.2 p (by omega) (putL_sound h hx hq) hp
theorem someL_sound {b : List Int} {mask : Nat} : ∀ (m at_ : Nat) (x : List Int) (n : Nat) (p : Nat × List Int × Nat), x.length = 14 → someL b mask m at_ x n = .inr p → p.2.1.length = 14
  | 0, _, _, _, p, h, hp => by rw [someL] at hp; cases hp; exact h
  | m + 1, at_, x, n, p, h, hp => by
    rw [someL] at hp
    split at hp
    · cases hq : writeL b at_ x (13 - m) with
      | inl e => rw [hq] at hp; cases hp
      | inr q =>
        rw [hq] at hp
        exact someL_sound m q.1 q.2 (n + 1) p (by rw [(writeL_len hq).1]; exact h) hp
    · exact someL_sound m at_ x n p h hp
theorem cmdL_sound {b : List Int} {c : Int} {at_ : Nat} {log : List (List Int)} {cyc : List Int} {s : St} (h : Sound log cyc) (hp : cmdL b c at_ log cyc = .inr s) (hr : ∀ v ∈ b, 0 ≤ v ∧ v < 256) : Sound s.2.1 s.2.2 := by
  have hlast : (lastOf log).length = 14 := prev_len h.2.1 (Nat.le_refl _)
  rw [cmd_forms] at hp
  split at hp
  · unfold atS at hp
    cases hq : runsL (lastOf log) c.toNat log cyc with
    | inl e => rw [hq] at hp; cases hp
    | inr q => rw [hq] at hp; cases hp; exact runsL_sound hlast _ _ _ q h hq
  · split at hp
    · split at hp
      · cases hp
      · unfold singleS at hp
        cases hq : writeL b at_ (lastOf log) (c - 128).toNat with
        | inl e => rw [hq] at hp; cases hp
        | inr q =>
          rw [hq] at hp
          simp only at hp
          unfold putS at hp
          cases hz : putL log cyc q.2 12 with
          | inl e => rw [hz] at hp; cases hp
          | inr z => rw [hz] at hp; cases hp; exact putL_sound h (by rw [(writeL_len hq).1]; exact hlast) hz
    · split at hp
      · unfold manyL at hp
        split at hp
        · split at hp
          · cases hp
          · rename_i lo hi _ _ _
            cases hq : someL b (lo + 256 * hi).toNat 14 (at_ + 2) (lastOf log) 0 with
            | inl e => rw [hq] at hp; cases hp
            | inr q =>
              rw [hq] at hp
              simp only at hp
              cases hz : putL log cyc q.2.1 (20 + 6 * (q.2.2 : Int)) with
              | inl e => rw [hz] at hp; cases hp
              | inr z => rw [hz] at hp; cases hp; exact putL_sound h (someL_sound _ _ _ _ q hlast hq) hz
        · cases hp
      · unfold repeatS at hp
        cases hv : b[at_]? with
        | none => rw [hv] at hp; cases hp
        | some d =>
          rw [hv] at hp
          simp only at hp
          have hd := hr d (List.mem_of_getElem? hv)
          split at hp
          · cases hp
          · unfold atS at hp
            cases hq : repsL d.toNat (c - 191).toNat 18 log cyc with
            | inl e => rw [hq] at hp; cases hp
            | inr q => rw [hq] at hp; cases hp; exact repsL_sound (by omega) _ _ _ _ q (by omega) h hq
theorem readL_sound {b : List Int} (hr : ∀ v ∈ b, 0 ≤ v ∧ v < 256) : ∀ (f at_ : Nat) (log : List (List Int)) (cyc : List Int) (p : List (List Int) × List Int × Nat), Sound log cyc → readL b f at_ log cyc = .inr p → Sound p.1 p.2.1
  | 0, _, _, _, p, _, hp => by rw [readL] at hp; cases hp
  | f + 1, at_, log, cyc, p, h, hp => by
    rw [readL] at hp
    split at hp
    · cases hp
    · split at hp
      · cases hp; exact h
      · rename_i c _ _
        cases hq : cmdL b c (at_ + 1) log cyc with
        | inl e => rw [hq] at hp; cases hp
        | inr q =>
          rw [hq] at hp
          exact readL_sound hr f q.1 q.2.1 q.2.2 p (cmdL_sound h hq hr) hp
theorem readAll_len {b : List Int} {log : List (List Int)} {cyc : List Int} {at_ : Nat} (hr : ∀ v ∈ b, 0 ≤ v ∧ v < 256) (h : readAll b = .inr (log, cyc, at_)) : log.length ≤ 4000 ∧ (∀ z ∈ log, z.length = 14) ∧ cyc.length = log.length := by
  unfold readAll at h
  split at h
  · cases h
  · exact readL_sound hr _ _ _ _ _ ⟨by simp, by simp, rfl⟩ h
/-- What both unpacks give; what both cycles give. -/
def Unpacked (L : List (List Int)) (n er : Int) (w : World) (e : Ending) (w' : World) : Prop :=
  ∃ A c, e = .returned (.tuple #[.slice A L.length c, .int .i64 n, .int .i64 er]) ∧ LogAt w' A L ∧ Below w.heap.size w w'
def Cycled (L : List Int) (er : Int) (w : World) (e : Ending) (w' : World) : Prop :=
  ∃ A c, e = .returned (.tuple #[.slice A L.length c, .int .i64 er]) ∧ IntsAt w' A L ∧ Below w.heap.size w w'
theorem unpack_both (w : World) (A : Option Addr) (cc : Nat) (b : List Int) (hA : BytesAt w A b) (hs : ∀ p o, A = some ⟨p, o, none⟩ → p < w.heap.size) (hr : ∀ v ∈ b, 0 ≤ v ∧ v < 256) (hl : b.length ≤ 5000) : ∃ (L : List (List Int)) (C : List Int) (n er : Int), L.length ≤ 4000 ∧ (∀ z ∈ L, z.length ≤ 4000) ∧ C.length ≤ 4001 ∧
    (∀ w1, Below w.heap.size w w1 → Calls Try.prog 34 #[.slice A b.length cc] w1 (Unpacked L n er w1)) ∧ (∀ w1, Below w.heap.size w w1 → Calls Try.prog 35 #[.slice A b.length cc] w1 (Unpacked L n er w1)) ∧
    (∀ w1, Below w.heap.size w w1 → Calls Try.prog 36 #[.slice A b.length cc] w1 (Cycled C er w1)) ∧ (∀ w1, Below w.heap.size w w1 → Calls Try.prog 37 #[.slice A b.length cc] w1 (Cycled C er w1)) := by
  have hs' : ∀ w1, Below w.heap.size w w1 → ∀ p o, A = some ⟨p, o, none⟩ → p < w1.heap.size := fun w1 hb p o e => Nat.lt_of_lt_of_le (hs p o e) hb.size
  cases hp : readAll b with
  | inl er =>
    refine ⟨[], [], 0, er, by simp, by simp, by simp, fun w1 hb => ?_, fun w1 hb => ?_, fun w1 hb => ?_, fun w1 hb => ?_⟩
    · refine (unpack_any w1 A cc b (hA.below hb) (hs' w1 hb) hr).mono fun e w' h => ?_
      rw [hp] at h
      exact ⟨none, 0, h.1, fun i hi => by simp at hi, h.2⟩
    · refine (runpack_any w1 A cc b (hA.below hb) (hs' w1 hb) hr (by omega)).mono fun e w' h => ?_
      rw [hp] at h
      exact ⟨none, 0, h.1, fun i hi => by simp at hi, h.2⟩
    · refine (cycles_any w1 A cc b (hA.below hb) (hs' w1 hb) hr).mono fun e w' h => ?_
      rw [hp] at h
      exact ⟨none, 0, h.1, fun h => absurd h (by simp), h.2⟩
    · refine (rcycles_any w1 A cc b (hA.below hb) (hs' w1 hb) hr (by omega)).mono fun e w' h => ?_
      rw [hp] at h
      exact ⟨none, 0, h.1, fun h => absurd h (by simp), h.2⟩
  | inr s =>
    obtain ⟨log, cyc, at_⟩ := s
    obtain ⟨h4, h14, hc⟩ := readAll_len hr hp
    refine ⟨log, cycEnd cyc, at_, 0, h4, fun z hz => by have := h14 z hz; omega, ?_, fun w1 hb => ?_, fun w1 hb => ?_, fun w1 hb => ?_, fun w1 hb => ?_⟩
    · unfold cycEnd; split
      · simp
      · rw [List.length_set]; omega
    · refine (unpack_any w1 A cc b (hA.below hb) (hs' w1 hb) hr).mono fun e w' h => ?_
      rw [hp] at h
      exact h
    · refine (runpack_any w1 A cc b (hA.below hb) (hs' w1 hb) hr (by omega)).mono fun e w' h => ?_
      rw [hp] at h
      exact h
    · refine (cycles_any w1 A cc b (hA.below hb) (hs' w1 hb) hr).mono fun e w' h => ?_
      rw [hp] at h
      exact h
    · refine (rcycles_any w1 A cc b (hA.below hb) (hs' w1 hb) hr (by omega)).mono fun e w' h => ?_
      rw [hp] at h
      exact h
end Go.Proofs.Ytjefhconahdbiaa
