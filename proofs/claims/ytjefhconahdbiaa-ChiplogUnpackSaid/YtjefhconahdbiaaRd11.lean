/- The reference's command: several registers differ. -/
import Derived.Test.YtjefhconahdbiaaRd10
namespace Go.Proofs.Ytjefhconahdbiaa
open Go.RowKit

/-- Where the registers of a mask have come to: k registers more, or an error. -/
def SomeS (b : List Int) (M k a : Nat) (y : List Int) (n : Nat) (e : Int) (res : Rd (Nat × List Int × Nat)) : Prop := (e = 0 ∧ M < 16384 ∧ someL b M k a y n = res) ∨ (e ≠ 0 ∧ res = .inl e)
def manyOf (log : List (List Int)) (cyc : List Int) (res : Rd (Nat × List Int × Nat)) : Rd St :=
  match res with
  | .inl e => .inl e
  | .inr q => putS q.1 log cyc q.2.1 (20 + 6 * (q.2.2 : Int))
theorem many_res (b : List Int) (at_ : Nat) (log : List (List Int)) (cyc x : List Int) (hx : lastOf log = x) (hr : ∀ v ∈ b, 0 ≤ v ∧ v < 256) : ∃ M : Nat, M < 65536 ∧
    ((M : Int) = (nextS b at_ 0).1 + 256 * (nextS b (nextS b at_ 0).2.1 (nextS b at_ 0).2.2).1) ∧ 0 ≤ (nextS b at_ 0).1 ∧ (nextS b at_ 0).1 < 256 ∧ 0 ≤ (nextS b (nextS b at_ 0).2.1 (nextS b at_ 0).2.2).1 ∧ (nextS b (nextS b at_ 0).2.1 (nextS b at_ 0).2.2).1 < 256 ∧
    ∃ res, manyL b at_ log cyc = manyOf log cyc res ∧ SomeS b M 14 (nextS b (nextS b at_ 0).2.1 (nextS b at_ 0).2.2).2.1 x 0 (wantS (nextS b (nextS b at_ 0).2.1 (nextS b at_ 0).2.2).2.2 (decide (1 ≤ (M : Int)) && decide ((M : Int) ≤ 16383))) res := by
  cases h1 : b[at_]? with
  | none =>
    have e1 : nextS b at_ 0 = (0, at_, 12) := by unfold nextS; rw [if_pos rfl, h1]
    have e2 : nextS b at_ 12 = (0, at_, 12) := by unfold nextS; rw [if_neg (by decide)]
    rw [e1]
    simp only
    rw [e2]
    refine ⟨0, by omega, by simp, by simp, by simp, by simp, by simp, .inl 12, ?_, Or.inr ⟨by simp [wantS], by simp [wantS]⟩⟩
    unfold manyL; rw [h1]; rfl
  | some lo =>
    have hlo := hr lo (List.mem_of_getElem? h1)
    have e1 : nextS b at_ 0 = (lo, at_ + 1, 0) := by unfold nextS; rw [if_pos rfl, h1]
    rw [e1]
    simp only
    cases h2 : b[at_ + 1]? with
    | none =>
      have e2 : nextS b (at_ + 1) 0 = (0, at_ + 1, 12) := by unfold nextS; rw [if_pos rfl, h2]
      rw [e2]
      refine ⟨lo.toNat, by omega, by simp; omega, hlo.1, hlo.2, by simp, by simp, .inl 12, ?_, Or.inr ⟨by simp [wantS], by simp [wantS]⟩⟩
      unfold manyL; rw [h1, h2]; rfl
    | some hi =>
      have hhi := hr hi (List.mem_of_getElem? h2)
      have e2 : nextS b (at_ + 1) 0 = (hi, at_ + 1 + 1, 0) := by unfold nextS; rw [if_pos rfl, h2]
      rw [e2]
      simp only
      refine ⟨(lo + 256 * hi).toNat, by omega, by omega, hlo.1, hlo.2, hhi.1, hhi.2, ?_⟩
      by_cases hm : lo + 256 * hi = 0 ∨ 16384 ≤ lo + 256 * hi
      · refine ⟨.inl 9, ?_, Or.inr ?_⟩
        · unfold manyL; rw [h1, h2]; simp only; rw [if_pos hm]; rfl
        · have : (decide (1 ≤ (((lo + 256 * hi).toNat : Nat) : Int)) && decide ((((lo + 256 * hi).toNat : Nat) : Int) ≤ 16383)) = false := by
            rw [Bool.and_eq_false_iff]
            rcases hm with h | h
            · exact Or.inl (decide_eq_false (by omega))
            · exact Or.inr (decide_eq_false (by omega))
          rw [this]
          simp [wantS]
      · have : (decide (1 ≤ (((lo + 256 * hi).toNat : Nat) : Int)) && decide ((((lo + 256 * hi).toNat : Nat) : Int) ≤ 16383)) = true := by
          rw [Bool.and_eq_true]
          exact ⟨decide_eq_true (by omega), decide_eq_true (by omega)⟩
        rw [this]
        refine ⟨someL b (lo + 256 * hi).toNat 14 (at_ + 1 + 1) x 0, ?_, Or.inl ⟨by simp [wantS], by omega, rfl⟩⟩
        unfold manyL; rw [h1, h2]; simp only; rw [if_neg hm, hx]
        cases someL b (lo + 256 * hi).toNat 14 (at_ + 2) x 0 with
        | inl e => rfl
        | inr q => obtain ⟨a, y, n⟩ := q; unfold manyOf putS; rfl
theorem someS_yes {b : List Int} {M k a n : Nat} {y : List Int} {res : Rd (Nat × List Int × Nat)} (h : SomeS b M (14 - k) a y n 0 res) (hk : k < 14) (hb : M.testBit k = true) :
    SomeS b M (14 - (k + 1)) (nextS b a 0).2.1 (y.set k (nextS b a 0).1) (n + 1) (wantS (nextS b a 0).2.2 ((nextS b a 0).1 != y.getD k 0)) res := by
  rcases h with ⟨_, hM, h⟩ | ⟨he, _⟩
  · rw [show 14 - k = (13 - k) + 1 by omega, someL, show 13 - (13 - k) = k by omega, hb] at h
    simp only [if_true] at h
    rw [show 14 - (k + 1) = 13 - k by omega]
    unfold writeL at h
    cases h1 : b[a]? with
    | none =>
      rw [h1] at h
      have e1 : nextS b a 0 = (0, a, 12) := by unfold nextS; rw [if_pos rfl, h1]
      rw [e1]
      exact Or.inr ⟨by simp [wantS], by rw [← h]; simp [wantS]⟩
    | some v =>
      rw [h1] at h
      have e1 : nextS b a 0 = (v, a + 1, 0) := by unfold nextS; rw [if_pos rfl, h1]
      rw [e1]
      simp only at h ⊢
      by_cases hv : v = y.getD k 0
      · rw [if_pos hv] at h
        have : (v != y.getD k 0) = false := by simpa using hv
        rw [this]
        exact Or.inr ⟨by simp [wantS], by rw [← h]; simp [wantS]⟩
      · rw [if_neg hv] at h
        have : (v != y.getD k 0) = true := by simpa using hv
        rw [this]
        exact Or.inl ⟨by simp [wantS], hM, h⟩
  · exact absurd rfl he
theorem someS_no {b : List Int} {M k a n : Nat} {y : List Int} {e : Int} {res : Rd (Nat × List Int × Nat)} (h : SomeS b M (14 - k) a y n e res) (hk : k < 14) (hb : M.testBit k = false) : SomeS b M (14 - (k + 1)) a y n e res := by
  rcases h with ⟨he, hM, h⟩ | h
  · rw [show 14 - k = (13 - k) + 1 by omega, someL, show 13 - (13 - k) = k by omega, hb] at h
    exact Or.inl ⟨he, hM, by rw [show 14 - (k + 1) = 13 - k by omega]; simpa using h⟩
  · exact Or.inr h
theorem some_is {b : List Int} {M j a n at_ : Nat} {y cyc : List Int} {log : List (List Int)} {e : Int} {res : Rd (Nat × List Int × Nat)} (h : SomeS b M j a y n e res) (hj : e = 0 → j = 0) (hm : manyL b at_ log cyc = manyOf log cyc res) :
    IsR (manyL b at_ log cyc) a (addS e log cyc y (20 + 6 * (n : Int))).1 (addS e log cyc y (20 + 6 * (n : Int))).2.1 (addS e log cyc y (20 + 6 * (n : Int))).2.2 := by
  rw [hm]
  rcases h with ⟨he, _, h⟩ | ⟨he, rfl⟩
  · have := hj he
    subst this
    subst he
    rw [← h]
    unfold someL manyOf addS putS
    rw [if_pos rfl]
    simp only
    cases putL log cyc y (20 + 6 * (n : Int)) with
    | inl er => exact rfl
    | inr p => exact ⟨rfl, rfl⟩
  · unfold addS manyOf
    rw [if_neg he]
    exact rfl
theorem rwant_as (w : World) (r : Nat) (sb : Value) (at_ : Nat) (log : List (List Int)) (cyc : List Int) (vl vc : Value) (e e3 : Int) (ok : Bool) (h : RdV w r sb at_ log cyc vl vc e) (he : e3 = wantS e ok) :
    Calls Try.prog 98 #[.pointer (some ⟨r, 0, none⟩), .bool ok] w fun en w' => en = .returned (.tuple #[]) ∧ RdV w' r sb at_ log cyc vl vc e3 ∧ Only (fun q => q = r) w w' := by
  rw [he]
  exact rwant_any w r sb at_ log cyc vl vc e ok h
set_option maxHeartbeats 16000000 in
set_option maxRecDepth 100000 in
theorem rsome_any (w : World) (r : Nat) (SA : Option Addr) (sc : Nat) (b : List Int) (at_ : Nat) (log : List (List Int)) (cyc : List Int) (vl vc : Value) (g c' : Nat) (x : List Int) (h : RdV w r (.slice SA b.length sc) at_ log cyc vl vc 0) (hR : Reads w r SA b) (hat : at_ ≤ b.length)
    (hx : w.rangeAt g 0 (icells x)) (hxl : x.length = 14) (hlast : lastOf log = x) (hn : ¬ Own r vl vc g) :
    Calls Try.prog 99 #[.pointer (some ⟨r, 0, none⟩), .slice (some ⟨g, 0, none⟩) 14 c'] w (CmdTo w r (.slice SA b.length sc) vl vc b (manyL b at_ log cyc)) := by
  have HH := hid h; have HR := hid hR; have HX := hid hx; have HXL := hid hxl; have HN := hid hn
  have HMR := hid (many_res b at_ log cyc x hlast hR.rng)
  have HLE := hid (nextS_le (e := 0) hat)
  clear h hR hx hxl hlast hn
  go_enter Try.func99, Try.ntmps99
  go_wp2_with fail
  refine (rnext_any _ r SA sc b at_ log cyc _ vc 0 HH.out HR.out hat).mono ?_
  rintro en w1 ⟨rfl, ht1, ho1⟩
  generalize nextS b at_ 0 = s at *
  obtain ⟨lo, at1, e1⟩ := s
  simp only at ht1 HLE HMR ⊢
  have HT1 := hid ht1
  have HO1 := hid ho1
  have HR1 : Hid (Reads w1 r SA b) := hid (HR.out.only ho1 (fun q hq => by omega))
  have HLE2 := hid (nextS_le (e := e1) HLE.out)
  clear ht1 ho1
  go_wp2_with fail
  refine (rnext_any _ r SA sc b at1 log cyc _ vc e1 HT1.out HR1.out HLE.out).mono ?_
  rintro en w2 ⟨rfl, ht2, ho2⟩
  generalize nextS b at1 e1 = s at *
  obtain ⟨hi, at2, e2⟩ := s
  simp only at ht2 HLE2 HMR ⊢
  obtain ⟨M, hM6, hM, hl0, hl1, hh0, hh1, res, hmany, hsome⟩ := HMR.out
  have HT2 := hid ht2
  have HO2 : Hid (Only (fun q => q = r) w w2) := hid (HO1.out.trans ho2 (fun q hq => Or.inl hq))
  have HR2 : Hid (Reads w2 r SA b) := hid (HR1.out.only ho2 (fun q hq => by omega))
  have hw3 : lo + 256 * hi = (M : Int) := hM.symm
  have HM6 := hid hM6; have HMANY := hid hmany; have HSOME := hid hsome
  clear ht2 ho2 hM hmany hsome HMR
  have hcase : ∃ p1 p2 : Bool, decide ((1 : Int) ≤ (M : Int)) = p1 ∧ decide ((M : Int) ≤ 16383) = p2 := ⟨_, _, rfl, rfl⟩
  obtain ⟨p1, p2, hp1, hp2⟩ := hcase
  rw [hp1, hp2] at HSOME
  have HLX : Hid (at2 ≤ b.length) := HLE2
  obtain ⟨e3, he3⟩ : ∃ e3, e3 = wantS e2 (p1 && p2) := ⟨_, rfl⟩
  rw [← he3] at HSOME
  have HE3 := hid he3
  clear he3
  cases p1 <;> cases p2
  all_goals
    go_wp2_with fail
    refine (rwant_as w2 r _ at2 log cyc _ vc e2 e3 _ HT2.out HE3.out).mono ?_
    rintro en w3 ⟨rfl, ht3, ho3⟩
    have HT3 := hid ht3
    have HO3 : Hid (Only (fun q => q = r) w w3) := hid (HO2.out.trans ho3 (fun q hq => Or.inl hq))
    have HR3 : Hid (Reads w3 r SA b) := hid (HR2.out.only ho3 (fun q hq => by omega))
    have HX3 : Hid (w3.rangeAt g 0 (icells x)) := hid (range_only HX.out HO3.out (fun h => HN.out (Or.inl h)))
    clear ht3 ho3 hp1 hp2 hw3
    go_wp2_with fail
    clear hl0 hl1 hh0 hh1 hM6
    refine (Try.slices_Clone_int g 0 14 _ x w3 (by rw [HXL.out]; exact Nat.le_refl _) (by omega) (range_cells HX3.out)).mono ?_
    rintro en w4 ⟨v', rfl, ho, -, hb4⟩
    obtain ⟨A3, c3, rfl, hA3⟩ := owned_form ho
    obtain ⟨n, rfl, hge, hlt⟩ := hA3 (by omega)
    have HRN : Hid (w4.rangeAt n 0 (icells x)) := hid (by have h1 := own_range ho; rwa [List.take_of_length_le (by rw [HXL.out]; exact Nat.le_refl _)] at h1)
    have HFN : Hid (Only (fun q => q = r) w3 w4) := hid (Only.ofBelow hb4)
    have HFZ : Hid (∀ j, w4.frozen? ⟨n, j, none⟩ = false) := hid (fun j => ho.frozenAt j)
    have HNG := hid hge
    have HRLT : Hid (r < w3.heap.size) := hid HT3.out.lt
    have HT4 : Hid (RdV w4 r (.slice SA b.length sc) at2 log cyc vl vc e3) := hid (HT3.out.below hb4)
    have HR4 : Hid (Reads w4 r SA b) := hid (HR3.out.only HFN.out (fun q hq => by omega))
    clear ho hA3 hge hlt hb4
    go_wp2_with fail
    go_loopw [7, 8] (fun v7 i wr => ∃ (k n' a' : Nat) (y : List Int) (e : Int), k ≤ 14 ∧ i = .int .i64 k ∧ v7 = .int .i64 (20 + 6 * (n' : Int)) ∧ n' ≤ k ∧ Hid (SomeS b M (14 - k) a' y n' e res) ∧ Hid (RdV wr r (.slice SA b.length sc) a' log cyc vl vc e) ∧ Hid (wr.rangeAt n 0 (icells y)) ∧ Hid (y.length = 14) ∧ Hid (a' ≤ b.length) ∧ Hid (Only (fun q => q = r) w3 wr) ∧ Hid (∀ j, wr.frozen? ⟨n, j, none⟩ = false)) (fun _ i _ => 14 - (intOf i).toNat)
    case atStart => exact ⟨0, 0, at2, x, e3, by omega, rfl, rfl, Nat.le_refl _, HSOME, HT4, HRN, HXL, HLX, HFN, HFZ⟩
    case round =>
      obtain ⟨k, n', a', y, e, hk, rfl, rfl, hnk, HS, HT, HY, HYL, HAB, HO, HFR⟩ := hrel
      have hc4 := cell_of_cells (k := 4) HT.out.blk rfl
      by_cases hlt : k < 14
      · have hk0 : (0 : Int) ≤ (k : Int) := by omega
        have hk4 : (k : Int) < 14 := by omega
        by_cases he : e = 0
        · subst he
          have hM1 : M < 16384 := by
            rcases HS.out with ⟨_, h, _⟩ | ⟨h, _⟩
            · exact h
            · exact absurd rfl h
          have hbit := bit_i64 M k hM1
          clear hM1
          have HRW : Hid (Reads wr r SA b) := hid (HR3.out.only HO.out (fun q hq => by omega))
          cases htb : M.testBit k with
          | true =>
            rw [htb] at hbit
            simp only [if_true] at hbit
            have HTB := hid htb; clear htb
            go_wp2_with fail
            refine (rnext_any _ r SA sc b a' log cyc _ vc 0 HT.out HRW.out HAB.out).mono ?_
            rintro en w5 ⟨rfl, ht5, ho5⟩
            have HSY := hid (someS_yes HS.out hlt HTB.out)
            have HLN := hid (nextS_le (e := 0) HAB.out)
            generalize nextS b a' 0 = s at *
            obtain ⟨v, a5, e5⟩ := s
            simp only at ht5 HLN HSY ⊢
            have HT5 := hid ht5
            have HO5 : Hid (Only (fun q => q = r) w3 w5) := hid (HO.out.trans ho5 (fun q hq => Or.inl hq))
            have hnr : ¬ n = r := by have h1 := HNG.out; have h2 := HRLT.out; omega
            have hnl : n < wr.heap.size := World.block_lt_of_cell? _ _ (HY.out 0 _ (List.getElem?_eq_getElem (by rw [icells_len, HYL.out]; omega)))
            have HY5 : Hid (w5.rangeAt n 0 (icells y)) := hid (range_only HY.out ho5 hnr)
            have HF5 : Hid (∀ j, w5.frozen? ⟨n, j, none⟩ = false) := hid (fun j => (World.frozen?_of_block (ho5.block n hnl hnr)).trans (HFR.out j))
            have hnl5 : n < w5.heap.size := Nat.lt_of_lt_of_le hnl ho5.size
            obtain ⟨u, hu⟩ : ∃ u, y[k]? = some u := ⟨_, List.getElem?_eq_getElem (by rw [HYL.out]; exact hlt)⟩
            have hcu : w5.cell? ⟨n, k, none⟩ = some (.int .i64 u) := by have := HY5.out k _ (icells_at hu); rwa [Nat.zero_add] at this
            have hug : y.getD k 0 = u := by rw [List.getD, hu]; rfl
            rw [hug] at HSY
            have HU := hid hu
            obtain ⟨ok, hok⟩ : ∃ ok, (v != u) = ok := ⟨_, rfl⟩
            rw [hok] at HSY
            have HNR := hid hnr; have HNL5 := hid hnl5
            clear ht5 ho5 hu hug hbit hc4 hnr hnl hnl5
            go_wp2_with fail
            refine (rwant_any w5 r _ a5 log cyc _ vc e5 ok HT5.out).mono ?_
            rintro en w6 ⟨rfl, ht6, ho6⟩
            have HT6 := hid ht6
            have HO6 : Hid (Only (fun q => q = r) w3 w6) := hid (HO5.out.trans ho6 (fun q hq => Or.inl hq))
            have HY6 : Hid (w6.rangeAt n 0 (icells y)) := hid (range_only HY5.out ho6 HNR.out)
            have HF6 : Hid (∀ j, w6.frozen? ⟨n, j, none⟩ = false) := hid (fun j => (World.frozen?_of_block (ho6.block n HNL5.out HNR.out)).trans (HF5.out j))
            have hcu6 : w6.cell? ⟨n, k, none⟩ = some (.int .i64 u) := by have := HY6.out k _ (icells_at HU.out); rwa [Nat.zero_add] at this
            have hfu6 : w6.frozen? ⟨n, k, none⟩ = false := HF6.out k
            clear ht6 ho6 hok hcu
            go_wp2_with fail
            have HO7 : Hid (Only (fun q => q = r) w3 (w6.setCell ⟨n, k, none⟩ (.int .i64 v))) := hid (HO6.out.set _ (Or.inr HNG.out))
            have HT7 : Hid (RdV (w6.setCell ⟨n, k, none⟩ (.int .i64 v)) r (.slice SA b.length sc) a5 log cyc vl vc (wantS e5 ok)) := hid (HT3.out.far HO7.out (by
              rw [heap_setCell_other w6 ⟨n, k, none⟩ r _ (by have := HNR.out; simp; omega)]
              exact HT6.out.blk))
            have HY7 : Hid ((w6.setCell ⟨n, k, none⟩ (.int .i64 v)).rangeAt n 0 (icells (y.set k v))) := hid (range_set HY6.out hcu6)
            have HL7 : Hid ((y.set k v).length = 14) := hid (by rw [List.length_set]; exact HYL.out)
            have HF7 : Hid (∀ j, (w6.setCell ⟨n, k, none⟩ (.int .i64 v)).frozen? ⟨n, j, none⟩ = false) := hid (fun j => by rw [World.frozen?_setCell]; exact HF6.out j)
            clear hcu6 hfu6
            go_roundw
            case rel => exact ⟨k + 1, n' + 1, a5, y.set k v, wantS e5 ok, by omega, by go_num, by go_num, by omega, HSY, HT7, HY7, HL7, HLN, HO7, HF7⟩
            case measure => simp [intOf]; omega
          | false =>
            rw [htb] at hbit
            simp only [Bool.false_eq_true, if_false] at hbit
            have HSN := hid (someS_no HS.out hlt htb)
            clear htb
            go_wp2
            go_roundw
            case rel => exact ⟨k + 1, n', a', y, 0, by omega, by go_num, rfl, by omega, HSN, HT, HY, HYL, HAB, HO, HFR⟩
            case measure => simp [intOf]; omega
        · have hne : (e == 0) = false := by rw [beq_eq_false_iff_ne]; exact he
          have HIS := hid (some_is HS.out (fun h => absurd h he) HMANY.out)
          clear he
          go_wp2_with fail
          refine (radd_any wr r _ a' log cyc vl vc e n 0 _ y (20 + 6 * (n' : Int)) HT.out HY.out HYL.out).mono ?_
          rintro en w8 ⟨rfl, vl', vc', ht8, ho8, hw8⟩
          have HT8 := hid ht8; have HO8 := hid ho8; have HW8 := hid hw8
          clear ht8 ho8 hw8
          have HOW : Hid (Only (Own r vl vc) w wr) := hid ((HO3.out.trans HO.out (fun q hq => Or.inl hq)).mono (fun q _ hq => Or.inl hq))
          go_wp2
          go_end0
          exact ⟨rfl, a', _, _, vl', vc', _, HT8.out, HAB.out, HIS.out, HOW.out.trans HO8.out (fun q hq => Or.inl hq), fun q hq => (HW8.out q hq).imp id (fun h => by have := HOW.out.size; omega)⟩
      · obtain rfl : k = 14 := by omega
        have HIS := hid (some_is HS.out (fun _ => rfl) HMANY.out)
        clear hc4
        go_wp2_with fail
        refine (radd_any wr r _ a' log cyc vl vc e n 0 _ y (20 + 6 * (n' : Int)) HT.out HY.out HYL.out).mono ?_
        rintro en w8 ⟨rfl, vl', vc', ht8, ho8, hw8⟩
        have HT8 := hid ht8; have HO8 := hid ho8; have HW8 := hid hw8
        clear ht8 ho8 hw8
        have HOW : Hid (Only (Own r vl vc) w wr) := hid ((HO3.out.trans HO.out (fun q hq => Or.inl hq)).mono (fun q _ hq => Or.inl hq))
        go_wp2
        go_end0
        exact ⟨rfl, a', _, _, vl', vc', _, HT8.out, HAB.out, HIS.out, HOW.out.trans HO8.out (fun q hq => Or.inl hq), fun q hq => (HW8.out q hq).imp id (fun h => by have := HOW.out.size; omega)⟩
end Go.Proofs.Ytjefhconahdbiaa
