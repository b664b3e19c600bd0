/- The reference's Resolve: it hands back what the program's does, for every dialect, memory and cell. -/
import Derived.Test.YtkpielgdfahanaaGreatRLast
import Derived.Test.YtkpielgdfahanaaGreatRValid
import Derived.Test.YtkpielgdfahanaaGreatSame
namespace Go.Proofs.YtkpielgdfahanaaGreat
open Go.RowKit Go.Maps
/-- What the reference's ask comes to. -/
def askR (d note e p vc va : Int) (M : List Int) : St :=
  if d = 5 then (if e = 0 then rlastS note e p (st0 M) else effR 5 e p (rlastS note e p (st0 M))) else if e = 0 then colX d vc va M else effR d e p (colX d vc va M)
theorem compR_0 (c : Int) (s : St) (hp : s.p = 0) (hc : c ≠ 51) : compR c s = s := by
  unfold compR; rw [if_neg hc, if_pos hp]
theorem lastB_let (e : Int) (h0 : 1 ≤ e) (h1 : e ≤ 36) : (lastB e = true → letN e ≠ 51) ∧ (lastB e = true ∨ letN e = 51 ∨ letN e = 53 ∨ (letN e ≠ 48 ∧ letN e ≠ 49 ∧ letN e ≠ 50 ∧ letN e ≠ 51 ∧ letN e ≠ 52 ∧ letN e ≠ 53)) := by
  have all : ∀ j : Fin 36, (lastB ((j.val : Int) + 1) = true → letN ((j.val : Int) + 1) ≠ 51) ∧ (lastB ((j.val : Int) + 1) = true ∨ letN ((j.val : Int) + 1) = 51 ∨ letN ((j.val : Int) + 1) = 53 ∨ (letN ((j.val : Int) + 1) ≠ 48 ∧ letN ((j.val : Int) + 1) ≠ 49 ∧ letN ((j.val : Int) + 1) ≠ 50 ∧ letN ((j.val : Int) + 1) ≠ 51 ∧ letN ((j.val : Int) + 1) ≠ 52 ∧ letN ((j.val : Int) + 1) ≠ 53)) := by decide
  have := all ⟨(e - 1).toNat, by omega⟩
  rw [show ((((⟨(e - 1).toNat, by omega⟩ : Fin 36).val : Nat) : Int) + 1) = e by show (((e - 1).toNat : Nat) : Int) + 1 = e; omega] at this
  exact this
/-- An effect of compose, in the program and in the reference: the same operations and memory. -/
theorem eff5 (E P : Int) (s : St) (h0 : 1 ≤ E) (h1 : E ≤ 36) : (effR 5 E P s).M = (effX 5 (lastQ E P).1 (lastQ E P).2 s).M ∧ (effR 5 E P s).O = (effX 5 (lastQ E P).1 (lastQ E P).2 s).O := by
  obtain ⟨k1, k2⟩ := lastB_let E h0 h1
  unfold effR lastQ
  rw [if_pos rfl]
  by_cases hl : lastB E = true ∧ P = 0
  · rw [if_pos hl, compR_0 _ _ (show (s.put P).p = 0 from hl.2) (k1 hl.1)]
    unfold effX
    rw [if_neg (by decide)]
    exact ⟨rfl, rfl⟩
  · rw [if_neg hl]
    unfold effX
    rw [if_pos (by omega)]
    unfold compR
    by_cases h51 : letN E = 51
    · rw [if_pos h51, h51]; exact ⟨rfl, rfl⟩
    · rw [if_neg h51]
      by_cases hp : (s.put P).p = 0
      · rw [if_pos hp]
        have hP : P = 0 := hp
        have hn : lastB E ≠ true := fun h => hl ⟨h, hP⟩
        rcases k2 with h | h | h | ⟨n0, n1, n2, n3, n4, n5⟩
        · exact absurd h hn
        · exact absurd h h51
        · rw [h]
          have : runE (dialG 5 53) (s.put P) = s.put P := if_pos hp
          rw [this]; exact ⟨rfl, rfl⟩
        · have : dialG 5 (letN E) = .nil := by show composeE (letN E) = .nil; unfold composeE upd; rw [if_neg n5, if_neg n4, if_neg n3, if_neg n2, if_neg n1, if_neg n0]
          rw [this]; exact ⟨rfl, rfl⟩
      · rw [if_neg hp]; exact ⟨rfl, rfl⟩
theorem askR_eq {d note inst vc va e p : Int} {M : List Int} (m : MemOk M) (c : CellOk d note inst vc va e p) : (askR d note e p vc va M).M = (askX d note e p vc va M).M ∧ (askR d note e p vc va M).O = (askX d note e p vc va M).O := by
  unfold askR askX
  by_cases hd : d = 5
  · rw [if_pos hd, if_pos hd]
    by_cases he : e = 0
    · subst he
      rw [if_pos rfl]
      by_cases hn : note = 0
      · subst hn
        have hS : lastS 0 0 p (st0 M) = st0 M := by unfold lastS; rw [if_neg (fun k => k.2 rfl), if_pos rfl]
        have hR : lastR 0 0 p (st0 M) = lastQ (st0 M).eff (st0 M).par := by unfold lastR; rw [if_pos ⟨rfl, rfl⟩]
        have hL : rlastS 0 0 p (st0 M) = if (st0 M).eff = 0 then st0 M else effR 5 (st0 M).eff (st0 M).par (st0 M) := by unfold rlastS; rw [if_neg (fun k => k.1 rfl), if_neg (fun k => k rfl), if_neg (fun k => k rfl)]
        rw [hS, hR, hL]
        have h1 : 0 ≤ (st0 M).eff ∧ (st0 M).eff ≤ 36 := m.eff
        by_cases hz : (st0 M).eff = 0
        · rw [if_pos hz, hz]
          have : (lastQ 0 (st0 M).par).1 = 0 := by unfold lastQ; split <;> rfl
          unfold effX
          rw [this, if_neg (by decide)]
          exact ⟨rfl, rfl⟩
        · rw [if_neg hz]
          exact eff5 _ _ _ (by omega) h1.2
      · have hS : lastS note 0 p (st0 M) = (st0 M).setEP 0 0 := by unfold lastS; rw [if_pos ⟨rfl, hn⟩]
        have hR : lastR note 0 p (st0 M) = lastQ 0 p := by unfold lastR; rw [if_neg (fun k => hn k.2)]
        have hL : rlastS note 0 p (st0 M) = (st0 M).setEP 0 0 := by unfold rlastS; rw [if_neg (fun k => k.1 rfl), if_neg (fun k => k rfl), if_pos hn]
        have hQ : lastQ 0 p = (0, p) := by unfold lastQ; rw [if_neg (fun k => by cases k.1)]
        rw [hS, hR, hL, hQ]
        unfold effX
        rw [if_neg (show ¬ (0 : Int) < (0, p).1 from Int.lt_irrefl 0)]
        exact ⟨rfl, rfl⟩
    · have e1 := c.e
      rw [if_neg he]
      have hR : lastR note e p (st0 M) = lastQ e p := by unfold lastR; rw [if_neg (fun k => he k.1)]
      have hS : rlastS note e p (st0 M) = lastS note e p (st0 M) := by
        unfold rlastS lastS
        rw [if_neg (show ¬ (e = 0 ∧ note ≠ 0) from fun k => he k.1), if_neg he]
        cases hl : lastB e with
        | true => rw [if_pos ⟨he, rfl⟩]; rfl
        | false => rw [if_neg (fun k => by cases k.2), if_pos he]; rfl
      rw [hR, hS]
      exact eff5 _ _ _ (by omega) e1.2
  · rw [if_neg hd, if_neg hd]
    have e1 := c.e
    by_cases he : e = 0
    · subst he
      rw [if_pos rfl]; unfold effX; rw [if_neg (by decide)]; exact ⟨rfl, rfl⟩
    · rw [if_neg he]; unfold effR effX; rw [if_neg hd, if_pos (by omega)]; exact ⟨rfl, rfl⟩
theorem rvalid_is (d note inst vc va e p : Int) (b : Bool) (h : validB d note inst vc va e p = b) (w : World) : Calls Tryz.prog 8 #[.int .i64 d, .agg #[.int .i64 note, .int .i64 inst, .int .i64 vc, .int .i64 va, .int .i64 e, .int .i64 p]] w fun x w' => x = .returned (.bool b) ∧ Below w.heap.size w w' := by
  subst h; exact rvalid_any d note inst vc va e p w
theorem rmem_is (M : List Int) (hM : M.length = 26) (b : Bool) (h : memB M = b) (w : World) : Calls Tryz.prog 30 #[.agg (memV M)] w fun x w' => x = .returned (.bool b) ∧ Below w.heap.size w w' := by
  subst h; exact rmem_any M hM w
theorem RAt.row {b base : Nat} {s : St} {v : Value} {w : World} (h : RAt b base s v w) : RowAt w b 0 (memV s.M).toList := fun j x hj => by
  have hj' : j < 26 := by
    have := (List.getElem?_eq_some_iff.1 hj).1
    have e := memV_size h.len
    simp at this; omega
  rw [Nat.zero_add, h.cM hj']
  unfold memV at hj
  rw [List.toList_toArray, List.getElem?_map, List.getElem?_eq_getElem (by rw [h.len]; omega)] at hj
  rw [List.getD_eq_getElem?_getD, List.getElem?_eq_getElem (by rw [h.len]; omega)]
  exact hj
set_option maxHeartbeats 4000000 in
set_option maxRecDepth 100000 in
theorem rres_A (M : List Int) (hM : M.length = 26) (d note inst vc va e p : Int) (hd : ¬ (1 ≤ d ∧ d ≤ 6)) (w : World) : Calls Tryz.prog 11 #[.int .i64 d, .agg (memV M), .agg #[.int .i64 note, .int .i64 inst, .int .i64 vc, .int .i64 va, .int .i64 e, .int .i64 p]] w (Res [] zeroM 6 w) := by
  have HM := hid hM
  have HX : Hid (Boxes3 w M note inst vc va e p w.heap.size (w.heap.size + 1) (w.heap.size + 1 + 1) (((w.alloc (.cells (memV M) 28)).alloc (.cells #[.int .i64 note, .int .i64 inst, .int .i64 vc, .int .i64 va, .int .i64 e, .int .i64 p] 23)).alloc (.cells (memV zeroM) 28))) := hid (Boxes3.made w M note inst vc va e p)
  have HD := hid hd
  clear hd
  clear hM
  go_enter Tryz.func11, Tryz.ntmps11
  go_upto_region 1 with (fail)
  change Hid (Boxes3 w M note inst vc va e p _ _ _ (((w.alloc (.cells (memV M) 28)).alloc (.cells #[.int .i64 note, .int .i64 inst, .int .i64 vc, .int .i64 va, .int .i64 e, .int .i64 p] 23)).alloc (.cells #[.int .i64 0, .int .i64 0, .int .i64 0, .int .i64 0, .int .i64 0, .int .i64 0, .int .i64 0, .int .i64 0, .int .i64 0, .int .i64 0, .int .i64 0, .int .i64 0, .int .i64 0, .int .i64 0, .int .i64 0, .int .i64 0, .int .i64 0, .int .i64 0, .int .i64 0, .int .i64 0, .int .i64 0, .int .i64 0, .int .i64 0, .int .i64 0, .int .i64 0, .int .i64 0] 28))) at HX
  generalize (((w.alloc (.cells (memV M) 28)).alloc (.cells #[.int .i64 note, .int .i64 inst, .int .i64 vc, .int .i64 va, .int .i64 e, .int .i64 p] 23)).alloc (.cells #[.int .i64 0, .int .i64 0, .int .i64 0, .int .i64 0, .int .i64 0, .int .i64 0, .int .i64 0, .int .i64 0, .int .i64 0, .int .i64 0, .int .i64 0, .int .i64 0, .int .i64 0, .int .i64 0, .int .i64 0, .int .i64 0, .int .i64 0, .int .i64 0, .int .i64 0, .int .i64 0, .int .i64 0, .int .i64 0, .int .i64 0, .int .i64 0, .int .i64 0, .int .i64 0] 28)) = w4 at *
  generalize w.heap.size + 1 + 1 = n3 at *
  generalize w.heap.size + 1 = n2 at *
  obtain ⟨n1, hn1⟩ : ∃ n1, n1 = w.heap.size := ⟨_, rfl⟩
  have HX0 : Hid (Boxes3 w M note inst vc va e p n1 n2 n3 w4) := by rw [hn1]; exact HX
  rw [← hn1]
  clear HX hn1
  go_wp2_with fail
  go_at_call 15
  refine (refquirks_any d w4).mono ?_
  rintro x w5 ⟨rfl, hb⟩
  replace HX0 := hid ((HX0.out.next hb).next (below1 w5 (.cells (qz d) 39)))
  clear hb
  go_upto_region 2 with (refine wpList_store_new rfl 39 _ _ rfl (qz 0) (qz d) rfl rfl (infoq d) (by rw [qz_size, qz_size]) (qz_one d) ?_)
  generalize w5.alloc (.cells (qz d) 39) = w6 at *
  obtain ⟨q2, q3, q4, q5, q6, q7⟩ := HX0.out.cells
  have HQ : Hid (qe d = 6) := hid (if_neg HD.out)
  rw [HQ.out]
  go_wp2_with (first | (refine wpList_store_block rfl 28 _ _ rfl n3 (memV zeroM) rfl rfl 28 (memV zeroM) HX0.out.t3 (by rw [memV_size zeroM_len]; exact size28) rfl (memV_ones _) ?_))
  exact bodyPost_ret (results_tct rfl _ _ n3 28 (memV zeroM) (0, 0) _ rfl (setRow_heap _ _ _ _ _ _ HX0.out.t3) Tryz.underlying28 rfl (by rw [memV_size zeroM_len]; exact size28)) rfl ⟨_, rfl, World.ownsRow_nil _ _ _ _, Below.row HX0.out.below HX0.out.le.1 _⟩
set_option maxHeartbeats 4000000 in
set_option maxRecDepth 100000 in
theorem rres_B (M : List Int) (hM : M.length = 26) (d note inst vc va e p : Int) (d1 : 1 ≤ d) (d2 : d ≤ 6) (hm : memB M = false) (w : World) : Calls Tryz.prog 11 #[.int .i64 d, .agg (memV M), .agg #[.int .i64 note, .int .i64 inst, .int .i64 vc, .int .i64 va, .int .i64 e, .int .i64 p]] w (Res [] zeroM 1 w) := by
  have HM := hid hM
  have HX : Hid (Boxes3 w M note inst vc va e p w.heap.size (w.heap.size + 1) (w.heap.size + 1 + 1) (((w.alloc (.cells (memV M) 28)).alloc (.cells #[.int .i64 note, .int .i64 inst, .int .i64 vc, .int .i64 va, .int .i64 e, .int .i64 p] 23)).alloc (.cells (memV zeroM) 28))) := hid (Boxes3.made w M note inst vc va e p)
  have HD := hid (And.intro d1 d2)
  have HMB := hid hm
  clear d1 d2 hm
  clear hM
  go_enter Tryz.func11, Tryz.ntmps11
  go_upto_region 1 with (fail)
  change Hid (Boxes3 w M note inst vc va e p _ _ _ (((w.alloc (.cells (memV M) 28)).alloc (.cells #[.int .i64 note, .int .i64 inst, .int .i64 vc, .int .i64 va, .int .i64 e, .int .i64 p] 23)).alloc (.cells #[.int .i64 0, .int .i64 0, .int .i64 0, .int .i64 0, .int .i64 0, .int .i64 0, .int .i64 0, .int .i64 0, .int .i64 0, .int .i64 0, .int .i64 0, .int .i64 0, .int .i64 0, .int .i64 0, .int .i64 0, .int .i64 0, .int .i64 0, .int .i64 0, .int .i64 0, .int .i64 0, .int .i64 0, .int .i64 0, .int .i64 0, .int .i64 0, .int .i64 0, .int .i64 0] 28))) at HX
  generalize (((w.alloc (.cells (memV M) 28)).alloc (.cells #[.int .i64 note, .int .i64 inst, .int .i64 vc, .int .i64 va, .int .i64 e, .int .i64 p] 23)).alloc (.cells #[.int .i64 0, .int .i64 0, .int .i64 0, .int .i64 0, .int .i64 0, .int .i64 0, .int .i64 0, .int .i64 0, .int .i64 0, .int .i64 0, .int .i64 0, .int .i64 0, .int .i64 0, .int .i64 0, .int .i64 0, .int .i64 0, .int .i64 0, .int .i64 0, .int .i64 0, .int .i64 0, .int .i64 0, .int .i64 0, .int .i64 0, .int .i64 0, .int .i64 0, .int .i64 0] 28)) = w4 at *
  generalize w.heap.size + 1 + 1 = n3 at *
  generalize w.heap.size + 1 = n2 at *
  obtain ⟨n1, hn1⟩ : ∃ n1, n1 = w.heap.size := ⟨_, rfl⟩
  have HX0 : Hid (Boxes3 w M note inst vc va e p n1 n2 n3 w4) := by rw [hn1]; exact HX
  rw [← hn1]
  clear HX hn1
  go_wp2_with fail
  go_at_call 15
  refine (refquirks_any d w4).mono ?_
  rintro x w5 ⟨rfl, hb⟩
  replace HX0 := hid ((HX0.out.next hb).next (below1 w5 (.cells (qz d) 39)))
  clear hb
  go_upto_region 2 with (refine wpList_store_new rfl 39 _ _ rfl (qz 0) (qz d) rfl rfl (infoq d) (by rw [qz_size, qz_size]) (qz_one d) ?_)
  generalize w5.alloc (.cells (qz d) 39) = w6 at *
  obtain ⟨q2, q3, q4, q5, q6, q7⟩ := HX0.out.cells
  have HQ : Hid (qe d = 0) := hid (if_pos HD.out)
  rw [HQ.out]
  have HR1 := hid (row_M HX0.out.t1)
  go_wp2_with (first | (refine wpList_load_at rfl 28 _ rfl n1 0 rfl (memV M) _ HR1.out Tryz.underlying28 rfl (by rw [memV_size HM.out]; exact size28) ?_) | (go_at_call 30; refine (rmem_is M HM.out _ HMB.out _).mono ?_; rintro x w7 ⟨rfl, hb⟩; replace HX0 := hid (HX0.out.next hb); have HR1 := hid (row_M HX0.out.t1); obtain ⟨q2, q3, q4, q5, q6, q7⟩ := HX0.out.cells; clear hb) | (refine wpList_store_block rfl 28 _ _ rfl n3 (memV zeroM) rfl rfl 28 (memV zeroM) HX0.out.t3 (by rw [memV_size zeroM_len]; exact size28) rfl (memV_ones _) ?_))
  exact bodyPost_ret (results_tct rfl _ _ n3 28 (memV zeroM) (0, 0) _ rfl (setRow_heap _ _ _ _ _ _ HX0.out.t3) Tryz.underlying28 rfl (by rw [memV_size zeroM_len]; exact size28)) rfl ⟨_, rfl, World.ownsRow_nil _ _ _ _, Below.row HX0.out.below HX0.out.le.1 _⟩
set_option maxHeartbeats 4000000 in
set_option maxRecDepth 100000 in
theorem rres_C (M : List Int) (hM : M.length = 26) (d note inst vc va e p : Int) (d1 : 1 ≤ d) (d2 : d ≤ 6) (hm : memB M = true) (hv : validB d note inst vc va e p = false) (w : World) : Calls Tryz.prog 11 #[.int .i64 d, .agg (memV M), .agg #[.int .i64 note, .int .i64 inst, .int .i64 vc, .int .i64 va, .int .i64 e, .int .i64 p]] w (Res [] zeroM 1 w) := by
  have HM := hid hM
  have HX : Hid (Boxes3 w M note inst vc va e p w.heap.size (w.heap.size + 1) (w.heap.size + 1 + 1) (((w.alloc (.cells (memV M) 28)).alloc (.cells #[.int .i64 note, .int .i64 inst, .int .i64 vc, .int .i64 va, .int .i64 e, .int .i64 p] 23)).alloc (.cells (memV zeroM) 28))) := hid (Boxes3.made w M note inst vc va e p)
  have HD := hid (And.intro d1 d2)
  have HMB := hid hm
  have HV := hid hv
  clear d1 d2 hm hv
  clear hM
  go_enter Tryz.func11, Tryz.ntmps11
  go_upto_region 1 with (fail)
  change Hid (Boxes3 w M note inst vc va e p _ _ _ (((w.alloc (.cells (memV M) 28)).alloc (.cells #[.int .i64 note, .int .i64 inst, .int .i64 vc, .int .i64 va, .int .i64 e, .int .i64 p] 23)).alloc (.cells #[.int .i64 0, .int .i64 0, .int .i64 0, .int .i64 0, .int .i64 0, .int .i64 0, .int .i64 0, .int .i64 0, .int .i64 0, .int .i64 0, .int .i64 0, .int .i64 0, .int .i64 0, .int .i64 0, .int .i64 0, .int .i64 0, .int .i64 0, .int .i64 0, .int .i64 0, .int .i64 0, .int .i64 0, .int .i64 0, .int .i64 0, .int .i64 0, .int .i64 0, .int .i64 0] 28))) at HX
  generalize (((w.alloc (.cells (memV M) 28)).alloc (.cells #[.int .i64 note, .int .i64 inst, .int .i64 vc, .int .i64 va, .int .i64 e, .int .i64 p] 23)).alloc (.cells #[.int .i64 0, .int .i64 0, .int .i64 0, .int .i64 0, .int .i64 0, .int .i64 0, .int .i64 0, .int .i64 0, .int .i64 0, .int .i64 0, .int .i64 0, .int .i64 0, .int .i64 0, .int .i64 0, .int .i64 0, .int .i64 0, .int .i64 0, .int .i64 0, .int .i64 0, .int .i64 0, .int .i64 0, .int .i64 0, .int .i64 0, .int .i64 0, .int .i64 0, .int .i64 0] 28)) = w4 at *
  generalize w.heap.size + 1 + 1 = n3 at *
  generalize w.heap.size + 1 = n2 at *
  obtain ⟨n1, hn1⟩ : ∃ n1, n1 = w.heap.size := ⟨_, rfl⟩
  have HX0 : Hid (Boxes3 w M note inst vc va e p n1 n2 n3 w4) := by rw [hn1]; exact HX
  rw [← hn1]
  clear HX hn1
  go_wp2_with fail
  go_at_call 15
  refine (refquirks_any d w4).mono ?_
  rintro x w5 ⟨rfl, hb⟩
  replace HX0 := hid ((HX0.out.next hb).next (below1 w5 (.cells (qz d) 39)))
  clear hb
  go_upto_region 2 with (refine wpList_store_new rfl 39 _ _ rfl (qz 0) (qz d) rfl rfl (infoq d) (by rw [qz_size, qz_size]) (qz_one d) ?_)
  generalize w5.alloc (.cells (qz d) 39) = w6 at *
  obtain ⟨q2, q3, q4, q5, q6, q7⟩ := HX0.out.cells
  have HQ : Hid (qe d = 0) := hid (if_pos HD.out)
  rw [HQ.out]
  have HR1 := hid (row_M HX0.out.t1)
  go_wp2_with (first | (refine wpList_load_at rfl 28 _ rfl n1 0 rfl (memV M) _ HR1.out Tryz.underlying28 rfl (by rw [memV_size HM.out]; exact size28) ?_) | (go_at_call 30; refine (rmem_is M HM.out _ HMB.out _).mono ?_; rintro x w7 ⟨rfl, hb⟩; replace HX0 := hid (HX0.out.next hb); have HR1 := hid (row_M HX0.out.t1); obtain ⟨q2, q3, q4, q5, q6, q7⟩ := HX0.out.cells; clear hb) | (go_at_call 8; refine (rvalid_is d note inst vc va e p _ HV.out _).mono ?_; rintro x w7 ⟨rfl, hb⟩; replace HX0 := hid (HX0.out.next hb); have HR1 := hid (row_M HX0.out.t1); obtain ⟨q2, q3, q4, q5, q6, q7⟩ := HX0.out.cells; clear hb) | (refine wpList_store_block rfl 28 _ _ rfl n3 (memV zeroM) rfl rfl 28 (memV zeroM) HX0.out.t3 (by rw [memV_size zeroM_len]; exact size28) rfl (memV_ones _) ?_))
  exact bodyPost_ret (results_tct rfl _ _ n3 28 (memV zeroM) (0, 0) _ rfl (setRow_heap _ _ _ _ _ _ HX0.out.t3) Tryz.underlying28 rfl (by rw [memV_size zeroM_len]; exact size28)) rfl ⟨_, rfl, World.ownsRow_nil _ _ _ _, Below.row HX0.out.below HX0.out.le.1 _⟩
theorem built58 (m0 m1 m2 m3 m4 m5 m6 m7 m8 m9 m10 m11 m12 m13 m14 m15 m16 m17 m18 m19 m20 m21 m22 m23 m24 m25 : Int) : Tryz.prog.built 58 [(0, .agg (memV [m0, m1, m2, m3, m4, m5, m6, m7, m8, m9, m10, m11, m12, m13, m14, m15, m16, m17, m18, m19, m20, m21, m22, m23, m24, m25]))] = some ((([m0, m1, m2, m3, m4, m5, m6, m7, m8, m9, m10, m11, m12, m13, m14, m15, m16, m17, m18, m19, m20, m21, m22, m23, m24, m25] ++ [0, 0, 0]).map (Value.int .i64) ++ [Value.slice none 0 0]).toArray) := by kernel_rfl
def rask0 (M : List Int) : Array Value := ((M ++ [0, 0, 0]).map (Value.int .i64) ++ [Value.slice none 0 0]).toArray
theorem built_rask (M : List Int) (hM : M.length = 26) : Tryz.prog.built 58 [(0, .agg (memV M))] = some (rask0 M) := by
  obtain ⟨m0, m1, m2, m3, m4, m5, m6, m7, m8, m9, m10, m11, m12, m13, m14, m15, m16, m17, m18, m19, m20, m21, m22, m23, m24, m25, rfl⟩ := list26 M hM
  exact built58 m0 m1 m2 m3 m4 m5 m6 m7 m8 m9 m10 m11 m12 m13 m14 m15 m16 m17 m18 m19 m20 m21 m22 m23 m24 m25
theorem RAt.init {b base : Nat} {M : List Int} {w : World} (hM : M.length = 26) (hb : w.heap[b]? = some (.cells (rask0 M) 58 (0, 0))) (h : base ≤ b) : RAt b base (st0 M) (.slice none 0 0) w :=
  ⟨hM, ⟨by simp [st0, hM], hb⟩, World.ownsRow_nil _ _ _ _, (fun e => by cases e), h⟩
/-- The ask and the boxes beside it. -/
structure KR (w : World) (b n2 n3 : Nat) (note inst vc va e p : Int) (s : St) (v : Value) (wc : World) : Prop where
  ra : RAt b w.heap.size s v wc
  t2 : wc.heap[n2]? = some (.cells #[.int .i64 note, .int .i64 inst, .int .i64 vc, .int .i64 va, .int .i64 e, .int .i64 p] 23 (0, 0))
  t3 : wc.heap[n3]? = some (.cells (memV zeroM) 28 (0, 0))
  ap : Apart (fun c => c = n2 ∨ c = n3) b v wc
  below : BelowW w wc
  le : w.heap.size ≤ n3
theorem KR.step {w : World} {b n2 n3 : Nat} {note inst vc va e p : Int} {s s' : St} {v v' : Value} {wc w' : World} (K : KR w b n2 n3 note inst vc va e p s v wc) (k : RAt b w.heap.size s' v' w') (g : Steps b v v' wc w') : KR w b n2 n3 note inst vc va e p s' v' w' :=
  ⟨k, (K.ap.same g n2 (Or.inl rfl) (K.ap n2 (Or.inl rfl)).2.2).trans K.t2, (K.ap.same g n3 (Or.inr rfl) (K.ap n3 (Or.inr rfl)).2.2).trans K.t3, K.ap.step g,
    K.below.trans ⟨g.os, g.tape, g.output, g.size, fun c hc => g.block c (by have := K.below.size; omega) (by have := K.ra.base; omega) (fun e => by have := (K.ra.own.lt c e).1; omega)⟩, K.le⟩
theorem KR.cells {w : World} {b n2 n3 : Nat} {note inst vc va e p : Int} {s : St} {v : Value} {wc : World} (K : KR w b n2 n3 note inst vc va e p s v wc) :
    wc.cell? ⟨n2, 2, none⟩ = some (.int .i64 vc) ∧ wc.cell? ⟨n2, 3, none⟩ = some (.int .i64 va) ∧ wc.cell? ⟨n2, 4, none⟩ = some (.int .i64 e) ∧ wc.cell? ⟨n2, 5, none⟩ = some (.int .i64 p) ∧ wc.cell? ⟨n2, 0, none⟩ = some (.int .i64 note) ∧ wc.cell? ⟨n2, 1, none⟩ = some (.int .i64 inst) := by
  refine ⟨?_, ?_, ?_, ?_, ?_, ?_⟩ <;> (rw [cell_of_row wc n2 _ _ _ _ K.t2]; rfl)
theorem KR.made {w : World} {M : List Int} {n1 n2 n3 : Nat} {note inst vc va e p : Int} {w4 : World} (h : Boxes3 w M note inst vc va e p n1 n2 n3 w4) (hM : M.length = 26) : KR w w4.heap.size n2 n3 note inst vc va e p (st0 M) (.slice none 0 0) (w4.alloc (.cells (rask0 M) 58)) := by
  have l : n3 < w4.heap.size := (Array.getElem?_eq_some_iff.1 h.t3).1
  have := h.le
  refine ⟨RAt.init hM (heap_alloc_new _ _) h.below.size, ((below1 _ _).block _ (by omega)).trans h.t2, ((below1 _ _).block _ l).trans h.t3, fun c hc => ⟨by omega, (fun e => by cases e), by simp; omega⟩, Below.step h.below (below1 _ _), h.le.1⟩
theorem rlastS_mid (note e p : Int) {M : List Int} (m : MemOk M) (he : e ≠ 0) : Mid (rlastS note e p (st0 M)) := by
  have hS : rlastS note e p (st0 M) = lastS note e p (st0 M) := by
    unfold rlastS lastS
    rw [if_neg (show ¬ (e = 0 ∧ note ≠ 0) from fun k => he k.1), if_neg he]
    cases hl : lastB e with
    | true => rw [if_pos ⟨he, rfl⟩]; rfl
    | false => rw [if_neg (fun k => by cases k.2), if_pos he]; rfl
  rw [hS]; exact lastS_mid note e p m
theorem validB_let {d note inst vc va e p : Int} (h : validB d note inst vc va e p = true) (he : e ≠ 0) : hasL (letS d).data.toList (letN e) = true := by
  unfold validB at h
  simp only [Bool.and_eq_true] at h
  have := h.2
  unfold effD at this
  rwa [if_neg he] at this
set_option maxHeartbeats 4000000 in
set_option maxRecDepth 100000 in
theorem rres_D1 (M : List Int) (hM : M.length = 26) (d note inst vc va e p : Int) (hm : memB M = true) (hv : validB d note inst vc va e p = true) (hd : d = 5) (hvc : vc = 0) (he : e = 0) (w : World) : Calls Tryz.prog 11 #[.int .i64 d, .agg (memV M), .agg #[.int .i64 note, .int .i64 inst, .int .i64 vc, .int .i64 va, .int .i64 e, .int .i64 p]] w (Res (askR d note e p vc va M).O (askR d note e p vc va M).M 0 w) := by
  have HM := hid hM
  have HX : Hid (Boxes3 w M note inst vc va e p w.heap.size (w.heap.size + 1) (w.heap.size + 1 + 1) (((w.alloc (.cells (memV M) 28)).alloc (.cells #[.int .i64 note, .int .i64 inst, .int .i64 vc, .int .i64 va, .int .i64 e, .int .i64 p] 23)).alloc (.cells (memV zeroM) 28))) := hid (Boxes3.made w M note inst vc va e p)
  have HD := hid (validB_cell hv).1
  have HC := hid (validB_cell hv).2
  have HMB := hid hm
  have HOK := hid (memB_ok hM hm)
  have HV := hid hv
  have HBU := hid (built_rask M hM)
  have HMD : Hid (Mid (st0 M)) := hid ⟨hM, HOK.out.slots, Nat.zero_le _⟩
  have td : (d == 5) = true := beq_true hd
  have tv : (vc != 0) = false := by rw [bne_eq_false_iff_eq]; exact hvc
  have te : (e != 0) = false := by rw [bne_eq_false_iff_eq]; exact he
  have HVZ := hid hvc
  have HEZ := hid he
  have HDZ := hid hd
  clear hvc he hd
  clear hm hv
  clear hM
  go_enter Tryz.func11, Tryz.ntmps11
  go_upto_region 1 with (fail)
  change Hid (Boxes3 w M note inst vc va e p _ _ _ (((w.alloc (.cells (memV M) 28)).alloc (.cells #[.int .i64 note, .int .i64 inst, .int .i64 vc, .int .i64 va, .int .i64 e, .int .i64 p] 23)).alloc (.cells #[.int .i64 0, .int .i64 0, .int .i64 0, .int .i64 0, .int .i64 0, .int .i64 0, .int .i64 0, .int .i64 0, .int .i64 0, .int .i64 0, .int .i64 0, .int .i64 0, .int .i64 0, .int .i64 0, .int .i64 0, .int .i64 0, .int .i64 0, .int .i64 0, .int .i64 0, .int .i64 0, .int .i64 0, .int .i64 0, .int .i64 0, .int .i64 0, .int .i64 0, .int .i64 0] 28))) at HX
  generalize (((w.alloc (.cells (memV M) 28)).alloc (.cells #[.int .i64 note, .int .i64 inst, .int .i64 vc, .int .i64 va, .int .i64 e, .int .i64 p] 23)).alloc (.cells #[.int .i64 0, .int .i64 0, .int .i64 0, .int .i64 0, .int .i64 0, .int .i64 0, .int .i64 0, .int .i64 0, .int .i64 0, .int .i64 0, .int .i64 0, .int .i64 0, .int .i64 0, .int .i64 0, .int .i64 0, .int .i64 0, .int .i64 0, .int .i64 0, .int .i64 0, .int .i64 0, .int .i64 0, .int .i64 0, .int .i64 0, .int .i64 0, .int .i64 0, .int .i64 0] 28)) = w4 at *
  generalize w.heap.size + 1 + 1 = n3 at *
  generalize w.heap.size + 1 = n2 at *
  obtain ⟨n1, hn1⟩ : ∃ n1, n1 = w.heap.size := ⟨_, rfl⟩
  have HX0 : Hid (Boxes3 w M note inst vc va e p n1 n2 n3 w4) := by rw [hn1]; exact HX
  rw [← hn1]
  clear HX hn1
  go_wp2_with fail
  go_at_call 15
  refine (refquirks_any d w4).mono ?_
  rintro x w5 ⟨rfl, hb⟩
  replace HX0 := hid ((HX0.out.next hb).next (below1 w5 (.cells (qz d) 39)))
  clear hb
  go_upto_region 2 with (refine wpList_store_new rfl 39 _ _ rfl (qz 0) (qz d) rfl rfl (infoq d) (by rw [qz_size, qz_size]) (qz_one d) ?_)
  generalize w5.alloc (.cells (qz d) 39) = w6 at *
  obtain ⟨q2, q3, q4, q5, q6, q7⟩ := HX0.out.cells
  have HQ : Hid (qe d = 0) := hid (if_pos HD.out)
  rw [HQ.out]
  have HR1 := hid (row_M HX0.out.t1)
  go_upto_region 6 with (first | (refine wpList_load_at rfl 28 _ rfl n1 0 rfl (memV M) _ HR1.out Tryz.underlying28 rfl (by rw [memV_size HM.out]; exact size28) ?_) | (go_at_call 30; refine (rmem_is M HM.out _ HMB.out _).mono ?_; rintro x w7 ⟨rfl, hb⟩; replace HX0 := hid (HX0.out.next hb); have HR1 := hid (row_M HX0.out.t1); obtain ⟨q2, q3, q4, q5, q6, q7⟩ := HX0.out.cells; clear hb) | (go_at_call 8; refine (rvalid_is d note inst vc va e p _ HV.out _).mono ?_; rintro x w7 ⟨rfl, hb⟩; replace HX0 := hid (HX0.out.next hb); have HR1 := hid (row_M HX0.out.t1); obtain ⟨q2, q3, q4, q5, q6, q7⟩ := HX0.out.cells; clear hb))
  go_upto_region 7 with (first | (refine wpList_load_at rfl 28 _ rfl n1 0 rfl (memV M) _ HR1.out Tryz.underlying28 rfl (by rw [memV_size HM.out]; exact size28) ?_) | (refine wpList_build_to rfl 58 _ rfl (rask0 M) (Eq.trans (b := Tryz.prog.built 58 [(0, .agg (memV M))]) (by kernel_rfl) HBU.out) ?_))
  have HK := hid (KR.made HX0.out HM.out)
  clear q2 q3 q4 q5 q6 q7
  obtain ⟨q2, q3, q4, q5, q0, q1⟩ := HK.out.cells
  have HSZ := hid HX0.out.below.size
  clear HX0 HR1
  generalize w7.alloc (.cells (rask0 M) 58) = wc0 at *
  generalize w7.heap.size = b at *
  go_upto_region 13 with (first | fail | (go_at_call 32; refine (rlasting (s := st0 M) note inst vc va e p HC.out.e HOK.out.eff HOK.out.par HMD.out HK.out.ra).mono ?_; rintro x wc2 ⟨rfl, v2, k, g⟩; replace HK := hid (HK.out.step k g); obtain ⟨q2, q3, q4, q5, q0, q1⟩ := HK.out.cells; clear k g))
  have HEX : Hid (askR d note e p vc va M = rlastS note e p (st0 M)) := hid (by unfold askR; rw [if_pos HDZ.out]; rw [if_pos HEZ.out])
  clear q0 q1 q2 q3 q4 q5
  generalize rlastS note e p (st0 M) = s' at *
  go_wp2_with fail
  refine wp_region_still_tail 9 (by kernel_rfl) (by kernel_rfl) ?_
  simp only [List.take_succ_cons, List.take_zero, List.drop_succ_cons, List.drop_zero]
  obtain ⟨wd, hwd⟩ : ∃ z, z = wc2.drew := ⟨_, rfl⟩
  have hww : ({ wc2 with drawn := wc2.drawn + 1 } : World) = wd := hwd.symm
  rw [hww]
  replace HK : Hid (KR w b n2 n3 note inst vc va e p s' v2 wd) := hid (by rw [hwd]; exact ⟨HK.out.ra.drew, HK.out.t2, HK.out.t3, HK.out.ap, ⟨HK.out.below.os, HK.out.below.tape, HK.out.below.output, HK.out.below.size, HK.out.below.block⟩, HK.out.le⟩)
  clear hww hwd
  have c29 := HK.out.ra.at_.ops
  have HRb := hid HK.out.ra.row
  have HLEN := hid HK.out.ra.len
  have HB3 := hid (Array.getElem?_eq_some_iff.1 HK.out.t3).1
  repeat (first
    | (refine wpStill_step (fun K hK => ?_); rw [if_pos (by rfl)]; refine still_load_at 28 _ (by rfl) b 0 (by rfl) (memV s'.M) _ HRb.out Tryz.underlying28 rfl (by rw [memV_size HLEN.out]; exact size28) ?_; (try simp only [Act.put, List.setIfInBounds_toArray, List.set_cons_zero, List.set_cons_succ]); refine hK _ ?_; clear hK K)
    | still_step)
  refine wpStill_nil ?_
  clear c29
  go_wp2_with (refine wpList_store_block rfl 28 _ _ rfl n3 (memV s'.M) rfl rfl 28 (memV zeroM) HK.out.t3 (by rw [memV_size HLEN.out]; exact size28) (by rw [memV_size HLEN.out]; rfl) (memV_ones _) ?_)
  refine bodyPost_ret (results_tct rfl _ _ n3 28 (memV s'.M) (0, 0) _ rfl (setRow_heap _ _ _ _ _ _ HK.out.t3) Tryz.underlying28 rfl (by rw [memV_size HLEN.out]; exact size28)) rfl ?_
  rw [HEX.out]
  exact ⟨v2, rfl, HK.out.ra.own.kept (grown_row wd n3 (memV s'.M)) (Or.inr fun x => (HK.out.ap n3 (Or.inr rfl)).2.1 x), Below.row HK.out.below HK.out.le _⟩
set_option maxHeartbeats 4000000 in
set_option maxRecDepth 100000 in
theorem rres_D2 (M : List Int) (hM : M.length = 26) (d note inst vc va e p : Int) (hm : memB M = true) (hv : validB d note inst vc va e p = true) (hd : d = 5) (hvc : vc = 0) (he : e ≠ 0) (w : World) : Calls Tryz.prog 11 #[.int .i64 d, .agg (memV M), .agg #[.int .i64 note, .int .i64 inst, .int .i64 vc, .int .i64 va, .int .i64 e, .int .i64 p]] w (Res (askR d note e p vc va M).O (askR d note e p vc va M).M 0 w) := by
  have HM := hid hM
  have HX : Hid (Boxes3 w M note inst vc va e p w.heap.size (w.heap.size + 1) (w.heap.size + 1 + 1) (((w.alloc (.cells (memV M) 28)).alloc (.cells #[.int .i64 note, .int .i64 inst, .int .i64 vc, .int .i64 va, .int .i64 e, .int .i64 p] 23)).alloc (.cells (memV zeroM) 28))) := hid (Boxes3.made w M note inst vc va e p)
  have HD := hid (validB_cell hv).1
  have HC := hid (validB_cell hv).2
  have HMB := hid hm
  have HOK := hid (memB_ok hM hm)
  have HV := hid hv
  have HBU := hid (built_rask M hM)
  have HMD : Hid (Mid (st0 M)) := hid ⟨hM, HOK.out.slots, Nat.zero_le _⟩
  have td : (d == 5) = true := beq_true hd
  have tv : (vc != 0) = false := by rw [bne_eq_false_iff_eq]; exact hvc
  have te : (e != 0) = true := bne_iff_ne.2 he
  have HEN := hid (show 1 ≤ e ∧ e ≤ 36 by have := HC.out.e; omega)
  have HLT : Hid (d = 5 ∨ hasL (letS d).data.toList (letN e) = true) := hid (Or.inr (validB_let hv he))
  have HMX : Hid (Mid (rlastS note e p (st0 M))) := hid (rlastS_mid note e p HOK.out he)
  have HVZ := hid hvc
  have HEZ := hid he
  have HDZ := hid hd
  clear hvc he hd
  clear hm hv
  clear hM
  go_enter Tryz.func11, Tryz.ntmps11
  go_upto_region 1 with (fail)
  change Hid (Boxes3 w M note inst vc va e p _ _ _ (((w.alloc (.cells (memV M) 28)).alloc (.cells #[.int .i64 note, .int .i64 inst, .int .i64 vc, .int .i64 va, .int .i64 e, .int .i64 p] 23)).alloc (.cells #[.int .i64 0, .int .i64 0, .int .i64 0, .int .i64 0, .int .i64 0, .int .i64 0, .int .i64 0, .int .i64 0, .int .i64 0, .int .i64 0, .int .i64 0, .int .i64 0, .int .i64 0, .int .i64 0, .int .i64 0, .int .i64 0, .int .i64 0, .int .i64 0, .int .i64 0, .int .i64 0, .int .i64 0, .int .i64 0, .int .i64 0, .int .i64 0, .int .i64 0, .int .i64 0] 28))) at HX
  generalize (((w.alloc (.cells (memV M) 28)).alloc (.cells #[.int .i64 note, .int .i64 inst, .int .i64 vc, .int .i64 va, .int .i64 e, .int .i64 p] 23)).alloc (.cells #[.int .i64 0, .int .i64 0, .int .i64 0, .int .i64 0, .int .i64 0, .int .i64 0, .int .i64 0, .int .i64 0, .int .i64 0, .int .i64 0, .int .i64 0, .int .i64 0, .int .i64 0, .int .i64 0, .int .i64 0, .int .i64 0, .int .i64 0, .int .i64 0, .int .i64 0, .int .i64 0, .int .i64 0, .int .i64 0, .int .i64 0, .int .i64 0, .int .i64 0, .int .i64 0] 28)) = w4 at *
  generalize w.heap.size + 1 + 1 = n3 at *
  generalize w.heap.size + 1 = n2 at *
  obtain ⟨n1, hn1⟩ : ∃ n1, n1 = w.heap.size := ⟨_, rfl⟩
  have HX0 : Hid (Boxes3 w M note inst vc va e p n1 n2 n3 w4) := by rw [hn1]; exact HX
  rw [← hn1]
  clear HX hn1
  go_wp2_with fail
  go_at_call 15
  refine (refquirks_any d w4).mono ?_
  rintro x w5 ⟨rfl, hb⟩
  replace HX0 := hid ((HX0.out.next hb).next (below1 w5 (.cells (qz d) 39)))
  clear hb
  go_upto_region 2 with (refine wpList_store_new rfl 39 _ _ rfl (qz 0) (qz d) rfl rfl (infoq d) (by rw [qz_size, qz_size]) (qz_one d) ?_)
  generalize w5.alloc (.cells (qz d) 39) = w6 at *
  obtain ⟨q2, q3, q4, q5, q6, q7⟩ := HX0.out.cells
  have HQ : Hid (qe d = 0) := hid (if_pos HD.out)
  rw [HQ.out]
  have HR1 := hid (row_M HX0.out.t1)
  go_upto_region 6 with (first | (refine wpList_load_at rfl 28 _ rfl n1 0 rfl (memV M) _ HR1.out Tryz.underlying28 rfl (by rw [memV_size HM.out]; exact size28) ?_) | (go_at_call 30; refine (rmem_is M HM.out _ HMB.out _).mono ?_; rintro x w7 ⟨rfl, hb⟩; replace HX0 := hid (HX0.out.next hb); have HR1 := hid (row_M HX0.out.t1); obtain ⟨q2, q3, q4, q5, q6, q7⟩ := HX0.out.cells; clear hb) | (go_at_call 8; refine (rvalid_is d note inst vc va e p _ HV.out _).mono ?_; rintro x w7 ⟨rfl, hb⟩; replace HX0 := hid (HX0.out.next hb); have HR1 := hid (row_M HX0.out.t1); obtain ⟨q2, q3, q4, q5, q6, q7⟩ := HX0.out.cells; clear hb))
  go_upto_region 7 with (first | (refine wpList_load_at rfl 28 _ rfl n1 0 rfl (memV M) _ HR1.out Tryz.underlying28 rfl (by rw [memV_size HM.out]; exact size28) ?_) | (refine wpList_build_to rfl 58 _ rfl (rask0 M) (Eq.trans (b := Tryz.prog.built 58 [(0, .agg (memV M))]) (by kernel_rfl) HBU.out) ?_))
  have HK := hid (KR.made HX0.out HM.out)
  clear q2 q3 q4 q5 q6 q7
  obtain ⟨q2, q3, q4, q5, q0, q1⟩ := HK.out.cells
  have HSZ := hid HX0.out.below.size
  clear HX0 HR1
  generalize w7.alloc (.cells (rask0 M) 58) = wc0 at *
  generalize w7.heap.size = b at *
  go_upto_region 13 with (first | fail | (go_at_call 32; refine (rlasting (s := st0 M) note inst vc va e p HC.out.e HOK.out.eff HOK.out.par HMD.out HK.out.ra).mono ?_; rintro x wc2 ⟨rfl, v2, k, g⟩; replace HK := hid (HK.out.step k g); obtain ⟨q2, q3, q4, q5, q0, q1⟩ := HK.out.cells; clear k g) | (go_at_call 33; refine (reff_any d e p HD.out.1 HD.out.2 HEN.out.1 HEN.out.2 HC.out.p.1 HC.out.p.2 HLT.out HK.out.ra HMX.out).mono ?_; rintro x wc3 ⟨rfl, v3, k, g⟩; replace HK := hid (HK.out.step k g); obtain ⟨q2, q3, q4, q5, q0, q1⟩ := HK.out.cells; clear k g))
  have HEX : Hid (askR d note e p vc va M = effR d e p (rlastS note e p (st0 M))) := hid (by unfold askR; rw [if_pos HDZ.out]; rw [if_neg HEZ.out, HDZ.out])
  clear q0 q1 q2 q3 q4 q5
  generalize effR d e p (rlastS note e p (st0 M)) = s' at *
  go_wp2_with fail
  refine wp_region_still_tail 9 (by kernel_rfl) (by kernel_rfl) ?_
  simp only [List.take_succ_cons, List.take_zero, List.drop_succ_cons, List.drop_zero]
  obtain ⟨wd, hwd⟩ : ∃ z, z = wc3.drew := ⟨_, rfl⟩
  have hww : ({ wc3 with drawn := wc3.drawn + 1 } : World) = wd := hwd.symm
  rw [hww]
  replace HK : Hid (KR w b n2 n3 note inst vc va e p s' v3 wd) := hid (by rw [hwd]; exact ⟨HK.out.ra.drew, HK.out.t2, HK.out.t3, HK.out.ap, ⟨HK.out.below.os, HK.out.below.tape, HK.out.below.output, HK.out.below.size, HK.out.below.block⟩, HK.out.le⟩)
  clear hww hwd
  have c29 := HK.out.ra.at_.ops
  have HRb := hid HK.out.ra.row
  have HLEN := hid HK.out.ra.len
  have HB3 := hid (Array.getElem?_eq_some_iff.1 HK.out.t3).1
  repeat (first
    | (refine wpStill_step (fun K hK => ?_); rw [if_pos (by rfl)]; refine still_load_at 28 _ (by rfl) b 0 (by rfl) (memV s'.M) _ HRb.out Tryz.underlying28 rfl (by rw [memV_size HLEN.out]; exact size28) ?_; (try simp only [Act.put, List.setIfInBounds_toArray, List.set_cons_zero, List.set_cons_succ]); refine hK _ ?_; clear hK K)
    | still_step)
  refine wpStill_nil ?_
  clear c29
  go_wp2_with (refine wpList_store_block rfl 28 _ _ rfl n3 (memV s'.M) rfl rfl 28 (memV zeroM) HK.out.t3 (by rw [memV_size HLEN.out]; exact size28) (by rw [memV_size HLEN.out]; rfl) (memV_ones _) ?_)
  refine bodyPost_ret (results_tct rfl _ _ n3 28 (memV s'.M) (0, 0) _ rfl (setRow_heap _ _ _ _ _ _ HK.out.t3) Tryz.underlying28 rfl (by rw [memV_size HLEN.out]; exact size28)) rfl ?_
  rw [HEX.out]
  exact ⟨v3, rfl, HK.out.ra.own.kept (grown_row wd n3 (memV s'.M)) (Or.inr fun x => (HK.out.ap n3 (Or.inr rfl)).2.1 x), Below.row HK.out.below HK.out.le _⟩
set_option maxHeartbeats 4000000 in
set_option maxRecDepth 100000 in
theorem rres_D3 (M : List Int) (hM : M.length = 26) (d note inst vc va e p : Int) (hm : memB M = true) (hv : validB d note inst vc va e p = true) (hd : d ≠ 5) (hvc : vc = 0) (he : e = 0) (w : World) : Calls Tryz.prog 11 #[.int .i64 d, .agg (memV M), .agg #[.int .i64 note, .int .i64 inst, .int .i64 vc, .int .i64 va, .int .i64 e, .int .i64 p]] w (Res (askR d note e p vc va M).O (askR d note e p vc va M).M 0 w) := by
  have HM := hid hM
  have HX : Hid (Boxes3 w M note inst vc va e p w.heap.size (w.heap.size + 1) (w.heap.size + 1 + 1) (((w.alloc (.cells (memV M) 28)).alloc (.cells #[.int .i64 note, .int .i64 inst, .int .i64 vc, .int .i64 va, .int .i64 e, .int .i64 p] 23)).alloc (.cells (memV zeroM) 28))) := hid (Boxes3.made w M note inst vc va e p)
  have HD := hid (validB_cell hv).1
  have HC := hid (validB_cell hv).2
  have HMB := hid hm
  have HOK := hid (memB_ok hM hm)
  have HV := hid hv
  have HBU := hid (built_rask M hM)
  have HMD : Hid (Mid (st0 M)) := hid ⟨hM, HOK.out.slots, Nat.zero_le _⟩
  have td : (d == 5) = false := beq_false hd
  have tv : (vc != 0) = false := by rw [bne_eq_false_iff_eq]; exact hvc
  have te : (e != 0) = false := by rw [bne_eq_false_iff_eq]; exact he
  have HVZ := hid hvc
  have HEZ := hid he
  have HDZ := hid hd
  clear hvc he hd
  clear hm hv
  clear hM
  go_enter Tryz.func11, Tryz.ntmps11
  go_upto_region 1 with (fail)
  change Hid (Boxes3 w M note inst vc va e p _ _ _ (((w.alloc (.cells (memV M) 28)).alloc (.cells #[.int .i64 note, .int .i64 inst, .int .i64 vc, .int .i64 va, .int .i64 e, .int .i64 p] 23)).alloc (.cells #[.int .i64 0, .int .i64 0, .int .i64 0, .int .i64 0, .int .i64 0, .int .i64 0, .int .i64 0, .int .i64 0, .int .i64 0, .int .i64 0, .int .i64 0, .int .i64 0, .int .i64 0, .int .i64 0, .int .i64 0, .int .i64 0, .int .i64 0, .int .i64 0, .int .i64 0, .int .i64 0, .int .i64 0, .int .i64 0, .int .i64 0, .int .i64 0, .int .i64 0, .int .i64 0] 28))) at HX
  generalize (((w.alloc (.cells (memV M) 28)).alloc (.cells #[.int .i64 note, .int .i64 inst, .int .i64 vc, .int .i64 va, .int .i64 e, .int .i64 p] 23)).alloc (.cells #[.int .i64 0, .int .i64 0, .int .i64 0, .int .i64 0, .int .i64 0, .int .i64 0, .int .i64 0, .int .i64 0, .int .i64 0, .int .i64 0, .int .i64 0, .int .i64 0, .int .i64 0, .int .i64 0, .int .i64 0, .int .i64 0, .int .i64 0, .int .i64 0, .int .i64 0, .int .i64 0, .int .i64 0, .int .i64 0, .int .i64 0, .int .i64 0, .int .i64 0, .int .i64 0] 28)) = w4 at *
  generalize w.heap.size + 1 + 1 = n3 at *
  generalize w.heap.size + 1 = n2 at *
  obtain ⟨n1, hn1⟩ : ∃ n1, n1 = w.heap.size := ⟨_, rfl⟩
  have HX0 : Hid (Boxes3 w M note inst vc va e p n1 n2 n3 w4) := by rw [hn1]; exact HX
  rw [← hn1]
  clear HX hn1
  go_wp2_with fail
  go_at_call 15
  refine (refquirks_any d w4).mono ?_
  rintro x w5 ⟨rfl, hb⟩
  replace HX0 := hid ((HX0.out.next hb).next (below1 w5 (.cells (qz d) 39)))
  clear hb
  go_upto_region 2 with (refine wpList_store_new rfl 39 _ _ rfl (qz 0) (qz d) rfl rfl (infoq d) (by rw [qz_size, qz_size]) (qz_one d) ?_)
  generalize w5.alloc (.cells (qz d) 39) = w6 at *
  obtain ⟨q2, q3, q4, q5, q6, q7⟩ := HX0.out.cells
  have HQ : Hid (qe d = 0) := hid (if_pos HD.out)
  rw [HQ.out]
  have HR1 := hid (row_M HX0.out.t1)
  go_upto_region 6 with (first | (refine wpList_load_at rfl 28 _ rfl n1 0 rfl (memV M) _ HR1.out Tryz.underlying28 rfl (by rw [memV_size HM.out]; exact size28) ?_) | (go_at_call 30; refine (rmem_is M HM.out _ HMB.out _).mono ?_; rintro x w7 ⟨rfl, hb⟩; replace HX0 := hid (HX0.out.next hb); have HR1 := hid (row_M HX0.out.t1); obtain ⟨q2, q3, q4, q5, q6, q7⟩ := HX0.out.cells; clear hb) | (go_at_call 8; refine (rvalid_is d note inst vc va e p _ HV.out _).mono ?_; rintro x w7 ⟨rfl, hb⟩; replace HX0 := hid (HX0.out.next hb); have HR1 := hid (row_M HX0.out.t1); obtain ⟨q2, q3, q4, q5, q6, q7⟩ := HX0.out.cells; clear hb))
  go_upto_region 7 with (first | (refine wpList_load_at rfl 28 _ rfl n1 0 rfl (memV M) _ HR1.out Tryz.underlying28 rfl (by rw [memV_size HM.out]; exact size28) ?_) | (refine wpList_build_to rfl 58 _ rfl (rask0 M) (Eq.trans (b := Tryz.prog.built 58 [(0, .agg (memV M))]) (by kernel_rfl) HBU.out) ?_))
  have HK := hid (KR.made HX0.out HM.out)
  clear q2 q3 q4 q5 q6 q7
  obtain ⟨q2, q3, q4, q5, q0, q1⟩ := HK.out.cells
  have HSZ := hid HX0.out.below.size
  clear HX0 HR1
  generalize w7.alloc (.cells (rask0 M) 58) = wc0 at *
  generalize w7.heap.size = b at *
  go_upto_region 13 with (first | fail)
  have HEX : Hid (askR d note e p vc va M = st0 M) := hid (by unfold askR; rw [if_neg HDZ.out]; rw [if_pos HEZ.out]; unfold colX; rw [if_neg (by have := HVZ.out; have := HC.out.v.1; omega)])
  clear q0 q1 q2 q3 q4 q5
  generalize st0 M = s' at *
  go_wp2_with fail
  refine wp_region_still_tail 9 (by kernel_rfl) (by kernel_rfl) ?_
  simp only [List.take_succ_cons, List.take_zero, List.drop_succ_cons, List.drop_zero]
  obtain ⟨wd, hwd⟩ : ∃ z, z = wc0.drew := ⟨_, rfl⟩
  have hww : ({ wc0 with drawn := wc0.drawn + 1 } : World) = wd := hwd.symm
  rw [hww]
  replace HK : Hid (KR w b n2 n3 note inst vc va e p s' (.slice none 0 0) wd) := hid (by rw [hwd]; exact ⟨HK.out.ra.drew, HK.out.t2, HK.out.t3, HK.out.ap, ⟨HK.out.below.os, HK.out.below.tape, HK.out.below.output, HK.out.below.size, HK.out.below.block⟩, HK.out.le⟩)
  clear hww hwd
  have c29 := HK.out.ra.at_.ops
  have HRb := hid HK.out.ra.row
  have HLEN := hid HK.out.ra.len
  have HB3 := hid (Array.getElem?_eq_some_iff.1 HK.out.t3).1
  repeat (first
    | (refine wpStill_step (fun K hK => ?_); rw [if_pos (by rfl)]; refine still_load_at 28 _ (by rfl) b 0 (by rfl) (memV s'.M) _ HRb.out Tryz.underlying28 rfl (by rw [memV_size HLEN.out]; exact size28) ?_; (try simp only [Act.put, List.setIfInBounds_toArray, List.set_cons_zero, List.set_cons_succ]); refine hK _ ?_; clear hK K)
    | still_step)
  refine wpStill_nil ?_
  clear c29
  go_wp2_with (refine wpList_store_block rfl 28 _ _ rfl n3 (memV s'.M) rfl rfl 28 (memV zeroM) HK.out.t3 (by rw [memV_size HLEN.out]; exact size28) (by rw [memV_size HLEN.out]; rfl) (memV_ones _) ?_)
  refine bodyPost_ret (results_tct rfl _ _ n3 28 (memV s'.M) (0, 0) _ rfl (setRow_heap _ _ _ _ _ _ HK.out.t3) Tryz.underlying28 rfl (by rw [memV_size HLEN.out]; exact size28)) rfl ?_
  rw [HEX.out]
  exact ⟨(.slice none 0 0), rfl, HK.out.ra.own.kept (grown_row wd n3 (memV s'.M)) (Or.inr fun x => (HK.out.ap n3 (Or.inr rfl)).2.1 x), Below.row HK.out.below HK.out.le _⟩
set_option maxHeartbeats 4000000 in
set_option maxRecDepth 100000 in
theorem rres_D4 (M : List Int) (hM : M.length = 26) (d note inst vc va e p : Int) (hm : memB M = true) (hv : validB d note inst vc va e p = true) (hd : d ≠ 5) (hvc : vc = 0) (he : e ≠ 0) (w : World) : Calls Tryz.prog 11 #[.int .i64 d, .agg (memV M), .agg #[.int .i64 note, .int .i64 inst, .int .i64 vc, .int .i64 va, .int .i64 e, .int .i64 p]] w (Res (askR d note e p vc va M).O (askR d note e p vc va M).M 0 w) := by
  have HM := hid hM
  have HX : Hid (Boxes3 w M note inst vc va e p w.heap.size (w.heap.size + 1) (w.heap.size + 1 + 1) (((w.alloc (.cells (memV M) 28)).alloc (.cells #[.int .i64 note, .int .i64 inst, .int .i64 vc, .int .i64 va, .int .i64 e, .int .i64 p] 23)).alloc (.cells (memV zeroM) 28))) := hid (Boxes3.made w M note inst vc va e p)
  have HD := hid (validB_cell hv).1
  have HC := hid (validB_cell hv).2
  have HMB := hid hm
  have HOK := hid (memB_ok hM hm)
  have HV := hid hv
  have HBU := hid (built_rask M hM)
  have HMD : Hid (Mid (st0 M)) := hid ⟨hM, HOK.out.slots, Nat.zero_le _⟩
  have td : (d == 5) = false := beq_false hd
  have tv : (vc != 0) = false := by rw [bne_eq_false_iff_eq]; exact hvc
  have te : (e != 0) = true := bne_iff_ne.2 he
  have HEN := hid (show 1 ≤ e ∧ e ≤ 36 by have := HC.out.e; omega)
  have HLT : Hid (d = 5 ∨ hasL (letS d).data.toList (letN e) = true) := hid (Or.inr (validB_let hv he))
  have HMX := HMD
  have HVZ := hid hvc
  have HEZ := hid he
  have HDZ := hid hd
  clear hvc he hd
  clear hm hv
  clear hM
  go_enter Tryz.func11, Tryz.ntmps11
  go_upto_region 1 with (fail)
  change Hid (Boxes3 w M note inst vc va e p _ _ _ (((w.alloc (.cells (memV M) 28)).alloc (.cells #[.int .i64 note, .int .i64 inst, .int .i64 vc, .int .i64 va, .int .i64 e, .int .i64 p] 23)).alloc (.cells #[.int .i64 0, .int .i64 0, .int .i64 0, .int .i64 0, .int .i64 0, .int .i64 0, .int .i64 0, .int .i64 0, .int .i64 0, .int .i64 0, .int .i64 0, .int .i64 0, .int .i64 0, .int .i64 0, .int .i64 0, .int .i64 0, .int .i64 0, .int .i64 0, .int .i64 0, .int .i64 0, .int .i64 0, .int .i64 0, .int .i64 0, .int .i64 0, .int .i64 0, .int .i64 0] 28))) at HX
  generalize (((w.alloc (.cells (memV M) 28)).alloc (.cells #[.int .i64 note, .int .i64 inst, .int .i64 vc, .int .i64 va, .int .i64 e, .int .i64 p] 23)).alloc (.cells #[.int .i64 0, .int .i64 0, .int .i64 0, .int .i64 0, .int .i64 0, .int .i64 0, .int .i64 0, .int .i64 0, .int .i64 0, .int .i64 0, .int .i64 0, .int .i64 0, .int .i64 0, .int .i64 0, .int .i64 0, .int .i64 0, .int .i64 0, .int .i64 0, .int .i64 0, .int .i64 0, .int .i64 0, .int .i64 0, .int .i64 0, .int .i64 0, .int .i64 0, .int .i64 0] 28)) = w4 at *
  generalize w.heap.size + 1 + 1 = n3 at *
  generalize w.heap.size + 1 = n2 at *
  obtain ⟨n1, hn1⟩ : ∃ n1, n1 = w.heap.size := ⟨_, rfl⟩
  have HX0 : Hid (Boxes3 w M note inst vc va e p n1 n2 n3 w4) := by rw [hn1]; exact HX
  rw [← hn1]
  clear HX hn1
  go_wp2_with fail
  go_at_call 15
  refine (refquirks_any d w4).mono ?_
  rintro x w5 ⟨rfl, hb⟩
  replace HX0 := hid ((HX0.out.next hb).next (below1 w5 (.cells (qz d) 39)))
  clear hb
  go_upto_region 2 with (refine wpList_store_new rfl 39 _ _ rfl (qz 0) (qz d) rfl rfl (infoq d) (by rw [qz_size, qz_size]) (qz_one d) ?_)
  generalize w5.alloc (.cells (qz d) 39) = w6 at *
  obtain ⟨q2, q3, q4, q5, q6, q7⟩ := HX0.out.cells
  have HQ : Hid (qe d = 0) := hid (if_pos HD.out)
  rw [HQ.out]
  have HR1 := hid (row_M HX0.out.t1)
  go_upto_region 6 with (first | (refine wpList_load_at rfl 28 _ rfl n1 0 rfl (memV M) _ HR1.out Tryz.underlying28 rfl (by rw [memV_size HM.out]; exact size28) ?_) | (go_at_call 30; refine (rmem_is M HM.out _ HMB.out _).mono ?_; rintro x w7 ⟨rfl, hb⟩; replace HX0 := hid (HX0.out.next hb); have HR1 := hid (row_M HX0.out.t1); obtain ⟨q2, q3, q4, q5, q6, q7⟩ := HX0.out.cells; clear hb) | (go_at_call 8; refine (rvalid_is d note inst vc va e p _ HV.out _).mono ?_; rintro x w7 ⟨rfl, hb⟩; replace HX0 := hid (HX0.out.next hb); have HR1 := hid (row_M HX0.out.t1); obtain ⟨q2, q3, q4, q5, q6, q7⟩ := HX0.out.cells; clear hb))
  go_upto_region 7 with (first | (refine wpList_load_at rfl 28 _ rfl n1 0 rfl (memV M) _ HR1.out Tryz.underlying28 rfl (by rw [memV_size HM.out]; exact size28) ?_) | (refine wpList_build_to rfl 58 _ rfl (rask0 M) (Eq.trans (b := Tryz.prog.built 58 [(0, .agg (memV M))]) (by kernel_rfl) HBU.out) ?_))
  have HK := hid (KR.made HX0.out HM.out)
  clear q2 q3 q4 q5 q6 q7
  obtain ⟨q2, q3, q4, q5, q0, q1⟩ := HK.out.cells
  have HSZ := hid HX0.out.below.size
  clear HX0 HR1
  generalize w7.alloc (.cells (rask0 M) 58) = wc0 at *
  generalize w7.heap.size = b at *
  go_upto_region 13 with (first | fail | (go_at_call 33; refine (reff_any d e p HD.out.1 HD.out.2 HEN.out.1 HEN.out.2 HC.out.p.1 HC.out.p.2 HLT.out HK.out.ra HMX.out).mono ?_; rintro x wc3 ⟨rfl, v3, k, g⟩; replace HK := hid (HK.out.step k g); obtain ⟨q2, q3, q4, q5, q0, q1⟩ := HK.out.cells; clear k g))
  have HEX : Hid (askR d note e p vc va M = effR d e p (st0 M)) := hid (by unfold askR; rw [if_neg HDZ.out]; rw [if_neg HEZ.out]; unfold colX; rw [if_neg (by have := HVZ.out; have := HC.out.v.1; omega)])
  clear q0 q1 q2 q3 q4 q5
  generalize effR d e p (st0 M) = s' at *
  go_wp2_with fail
  refine wp_region_still_tail 9 (by kernel_rfl) (by kernel_rfl) ?_
  simp only [List.take_succ_cons, List.take_zero, List.drop_succ_cons, List.drop_zero]
  obtain ⟨wd, hwd⟩ : ∃ z, z = wc3.drew := ⟨_, rfl⟩
  have hww : ({ wc3 with drawn := wc3.drawn + 1 } : World) = wd := hwd.symm
  rw [hww]
  replace HK : Hid (KR w b n2 n3 note inst vc va e p s' v3 wd) := hid (by rw [hwd]; exact ⟨HK.out.ra.drew, HK.out.t2, HK.out.t3, HK.out.ap, ⟨HK.out.below.os, HK.out.below.tape, HK.out.below.output, HK.out.below.size, HK.out.below.block⟩, HK.out.le⟩)
  clear hww hwd
  have c29 := HK.out.ra.at_.ops
  have HRb := hid HK.out.ra.row
  have HLEN := hid HK.out.ra.len
  have HB3 := hid (Array.getElem?_eq_some_iff.1 HK.out.t3).1
  repeat (first
    | (refine wpStill_step (fun K hK => ?_); rw [if_pos (by rfl)]; refine still_load_at 28 _ (by rfl) b 0 (by rfl) (memV s'.M) _ HRb.out Tryz.underlying28 rfl (by rw [memV_size HLEN.out]; exact size28) ?_; (try simp only [Act.put, List.setIfInBounds_toArray, List.set_cons_zero, List.set_cons_succ]); refine hK _ ?_; clear hK K)
    | still_step)
  refine wpStill_nil ?_
  clear c29
  go_wp2_with (refine wpList_store_block rfl 28 _ _ rfl n3 (memV s'.M) rfl rfl 28 (memV zeroM) HK.out.t3 (by rw [memV_size HLEN.out]; exact size28) (by rw [memV_size HLEN.out]; rfl) (memV_ones _) ?_)
  refine bodyPost_ret (results_tct rfl _ _ n3 28 (memV s'.M) (0, 0) _ rfl (setRow_heap _ _ _ _ _ _ HK.out.t3) Tryz.underlying28 rfl (by rw [memV_size HLEN.out]; exact size28)) rfl ?_
  rw [HEX.out]
  exact ⟨v3, rfl, HK.out.ra.own.kept (grown_row wd n3 (memV s'.M)) (Or.inr fun x => (HK.out.ap n3 (Or.inr rfl)).2.1 x), Below.row HK.out.below HK.out.le _⟩
set_option maxHeartbeats 4000000 in
set_option maxRecDepth 100000 in
theorem rres_D5 (M : List Int) (hM : M.length = 26) (d note inst vc va e p : Int) (hm : memB M = true) (hv : validB d note inst vc va e p = true) (hd : d ≠ 5) (hvc : vc ≠ 0) (he : e = 0) (w : World) : Calls Tryz.prog 11 #[.int .i64 d, .agg (memV M), .agg #[.int .i64 note, .int .i64 inst, .int .i64 vc, .int .i64 va, .int .i64 e, .int .i64 p]] w (Res (askR d note e p vc va M).O (askR d note e p vc va M).M 0 w) := by
  have HM := hid hM
  have HX : Hid (Boxes3 w M note inst vc va e p w.heap.size (w.heap.size + 1) (w.heap.size + 1 + 1) (((w.alloc (.cells (memV M) 28)).alloc (.cells #[.int .i64 note, .int .i64 inst, .int .i64 vc, .int .i64 va, .int .i64 e, .int .i64 p] 23)).alloc (.cells (memV zeroM) 28))) := hid (Boxes3.made w M note inst vc va e p)
  have HD := hid (validB_cell hv).1
  have HC := hid (validB_cell hv).2
  have HMB := hid hm
  have HOK := hid (memB_ok hM hm)
  have HV := hid hv
  have HBU := hid (built_rask M hM)
  have HMD : Hid (Mid (st0 M)) := hid ⟨hM, HOK.out.slots, Nat.zero_le _⟩
  have td : (d == 5) = false := beq_false hd
  have tv : (vc != 0) = true := bne_iff_ne.2 hvc
  have HVC := hid (show 1 ≤ vc ∧ vc ≤ volC d by have := HC.out.v; omega)
  have te : (e != 0) = false := by rw [bne_eq_false_iff_eq]; exact he
  have HVZ := hid hvc
  have HEZ := hid he
  have HDZ := hid hd
  clear hvc he hd
  clear hm hv
  clear hM
  go_enter Tryz.func11, Tryz.ntmps11
  go_upto_region 1 with (fail)
  change Hid (Boxes3 w M note inst vc va e p _ _ _ (((w.alloc (.cells (memV M) 28)).alloc (.cells #[.int .i64 note, .int .i64 inst, .int .i64 vc, .int .i64 va, .int .i64 e, .int .i64 p] 23)).alloc (.cells #[.int .i64 0, .int .i64 0, .int .i64 0, .int .i64 0, .int .i64 0, .int .i64 0, .int .i64 0, .int .i64 0, .int .i64 0, .int .i64 0, .int .i64 0, .int .i64 0, .int .i64 0, .int .i64 0, .int .i64 0, .int .i64 0, .int .i64 0, .int .i64 0, .int .i64 0, .int .i64 0, .int .i64 0, .int .i64 0, .int .i64 0, .int .i64 0, .int .i64 0, .int .i64 0] 28))) at HX
  generalize (((w.alloc (.cells (memV M) 28)).alloc (.cells #[.int .i64 note, .int .i64 inst, .int .i64 vc, .int .i64 va, .int .i64 e, .int .i64 p] 23)).alloc (.cells #[.int .i64 0, .int .i64 0, .int .i64 0, .int .i64 0, .int .i64 0, .int .i64 0, .int .i64 0, .int .i64 0, .int .i64 0, .int .i64 0, .int .i64 0, .int .i64 0, .int .i64 0, .int .i64 0, .int .i64 0, .int .i64 0, .int .i64 0, .int .i64 0, .int .i64 0, .int .i64 0, .int .i64 0, .int .i64 0, .int .i64 0, .int .i64 0, .int .i64 0, .int .i64 0] 28)) = w4 at *
  generalize w.heap.size + 1 + 1 = n3 at *
  generalize w.heap.size + 1 = n2 at *
  obtain ⟨n1, hn1⟩ : ∃ n1, n1 = w.heap.size := ⟨_, rfl⟩
  have HX0 : Hid (Boxes3 w M note inst vc va e p n1 n2 n3 w4) := by rw [hn1]; exact HX
  rw [← hn1]
  clear HX hn1
  go_wp2_with fail
  go_at_call 15
  refine (refquirks_any d w4).mono ?_
  rintro x w5 ⟨rfl, hb⟩
  replace HX0 := hid ((HX0.out.next hb).next (below1 w5 (.cells (qz d) 39)))
  clear hb
  go_upto_region 2 with (refine wpList_store_new rfl 39 _ _ rfl (qz 0) (qz d) rfl rfl (infoq d) (by rw [qz_size, qz_size]) (qz_one d) ?_)
  generalize w5.alloc (.cells (qz d) 39) = w6 at *
  obtain ⟨q2, q3, q4, q5, q6, q7⟩ := HX0.out.cells
  have HQ : Hid (qe d = 0) := hid (if_pos HD.out)
  rw [HQ.out]
  have HR1 := hid (row_M HX0.out.t1)
  go_upto_region 6 with (first | (refine wpList_load_at rfl 28 _ rfl n1 0 rfl (memV M) _ HR1.out Tryz.underlying28 rfl (by rw [memV_size HM.out]; exact size28) ?_) | (go_at_call 30; refine (rmem_is M HM.out _ HMB.out _).mono ?_; rintro x w7 ⟨rfl, hb⟩; replace HX0 := hid (HX0.out.next hb); have HR1 := hid (row_M HX0.out.t1); obtain ⟨q2, q3, q4, q5, q6, q7⟩ := HX0.out.cells; clear hb) | (go_at_call 8; refine (rvalid_is d note inst vc va e p _ HV.out _).mono ?_; rintro x w7 ⟨rfl, hb⟩; replace HX0 := hid (HX0.out.next hb); have HR1 := hid (row_M HX0.out.t1); obtain ⟨q2, q3, q4, q5, q6, q7⟩ := HX0.out.cells; clear hb))
  go_upto_region 7 with (first | (refine wpList_load_at rfl 28 _ rfl n1 0 rfl (memV M) _ HR1.out Tryz.underlying28 rfl (by rw [memV_size HM.out]; exact size28) ?_) | (refine wpList_build_to rfl 58 _ rfl (rask0 M) (Eq.trans (b := Tryz.prog.built 58 [(0, .agg (memV M))]) (by kernel_rfl) HBU.out) ?_))
  have HK := hid (KR.made HX0.out HM.out)
  clear q2 q3 q4 q5 q6 q7
  obtain ⟨q2, q3, q4, q5, q0, q1⟩ := HK.out.cells
  have HSZ := hid HX0.out.below.size
  clear HX0 HR1
  generalize w7.alloc (.cells (rask0 M) 58) = wc0 at *
  generalize w7.heap.size = b at *
  go_upto_region 13 with (first | fail | (go_at_call 31; refine (rcolumn vc va HVC.out.1 HVC.out.2 HC.out.a.1 HC.out.a.2 HK.out.ra HOK.out.ok).mono ?_; rintro x wc1 ⟨rfl, v1, k, g⟩; replace HK := hid (HK.out.step k g); obtain ⟨q2, q3, q4, q5, q0, q1⟩ := HK.out.cells; clear k g))
  have HEX : Hid (askR d note e p vc va M = colE (d == 3) vc va (st0 M)) := hid (by unfold askR; rw [if_neg HDZ.out]; rw [if_pos HEZ.out]; unfold colX; rw [if_pos (by have := HVZ.out; have := HC.out.v.1; omega)])
  clear q0 q1 q2 q3 q4 q5
  generalize colE (d == 3) vc va (st0 M) = s' at *
  go_wp2_with fail
  refine wp_region_still_tail 9 (by kernel_rfl) (by kernel_rfl) ?_
  simp only [List.take_succ_cons, List.take_zero, List.drop_succ_cons, List.drop_zero]
  obtain ⟨wd, hwd⟩ : ∃ z, z = wc1.drew := ⟨_, rfl⟩
  have hww : ({ wc1 with drawn := wc1.drawn + 1 } : World) = wd := hwd.symm
  rw [hww]
  replace HK : Hid (KR w b n2 n3 note inst vc va e p s' v1 wd) := hid (by rw [hwd]; exact ⟨HK.out.ra.drew, HK.out.t2, HK.out.t3, HK.out.ap, ⟨HK.out.below.os, HK.out.below.tape, HK.out.below.output, HK.out.below.size, HK.out.below.block⟩, HK.out.le⟩)
  clear hww hwd
  have c29 := HK.out.ra.at_.ops
  have HRb := hid HK.out.ra.row
  have HLEN := hid HK.out.ra.len
  have HB3 := hid (Array.getElem?_eq_some_iff.1 HK.out.t3).1
  repeat (first
    | (refine wpStill_step (fun K hK => ?_); rw [if_pos (by rfl)]; refine still_load_at 28 _ (by rfl) b 0 (by rfl) (memV s'.M) _ HRb.out Tryz.underlying28 rfl (by rw [memV_size HLEN.out]; exact size28) ?_; (try simp only [Act.put, List.setIfInBounds_toArray, List.set_cons_zero, List.set_cons_succ]); refine hK _ ?_; clear hK K)
    | still_step)
  refine wpStill_nil ?_
  clear c29
  go_wp2_with (refine wpList_store_block rfl 28 _ _ rfl n3 (memV s'.M) rfl rfl 28 (memV zeroM) HK.out.t3 (by rw [memV_size HLEN.out]; exact size28) (by rw [memV_size HLEN.out]; rfl) (memV_ones _) ?_)
  refine bodyPost_ret (results_tct rfl _ _ n3 28 (memV s'.M) (0, 0) _ rfl (setRow_heap _ _ _ _ _ _ HK.out.t3) Tryz.underlying28 rfl (by rw [memV_size HLEN.out]; exact size28)) rfl ?_
  rw [HEX.out]
  exact ⟨v1, rfl, HK.out.ra.own.kept (grown_row wd n3 (memV s'.M)) (Or.inr fun x => (HK.out.ap n3 (Or.inr rfl)).2.1 x), Below.row HK.out.below HK.out.le _⟩
set_option maxHeartbeats 4000000 in
set_option maxRecDepth 100000 in
theorem rres_D6 (M : List Int) (hM : M.length = 26) (d note inst vc va e p : Int) (hm : memB M = true) (hv : validB d note inst vc va e p = true) (hd : d ≠ 5) (hvc : vc ≠ 0) (he : e ≠ 0) (w : World) : Calls Tryz.prog 11 #[.int .i64 d, .agg (memV M), .agg #[.int .i64 note, .int .i64 inst, .int .i64 vc, .int .i64 va, .int .i64 e, .int .i64 p]] w (Res (askR d note e p vc va M).O (askR d note e p vc va M).M 0 w) := by
  have HM := hid hM
  have HX : Hid (Boxes3 w M note inst vc va e p w.heap.size (w.heap.size + 1) (w.heap.size + 1 + 1) (((w.alloc (.cells (memV M) 28)).alloc (.cells #[.int .i64 note, .int .i64 inst, .int .i64 vc, .int .i64 va, .int .i64 e, .int .i64 p] 23)).alloc (.cells (memV zeroM) 28))) := hid (Boxes3.made w M note inst vc va e p)
  have HD := hid (validB_cell hv).1
  have HC := hid (validB_cell hv).2
  have HMB := hid hm
  have HOK := hid (memB_ok hM hm)
  have HV := hid hv
  have HBU := hid (built_rask M hM)
  have HMD : Hid (Mid (st0 M)) := hid ⟨hM, HOK.out.slots, Nat.zero_le _⟩
  have td : (d == 5) = false := beq_false hd
  have tv : (vc != 0) = true := bne_iff_ne.2 hvc
  have HVC := hid (show 1 ≤ vc ∧ vc ≤ volC d by have := HC.out.v; omega)
  have te : (e != 0) = true := bne_iff_ne.2 he
  have HEN := hid (show 1 ≤ e ∧ e ≤ 36 by have := HC.out.e; omega)
  have HLT : Hid (d = 5 ∨ hasL (letS d).data.toList (letN e) = true) := hid (Or.inr (validB_let hv he))
  have HMX : Hid (Mid (colE (d == 3) vc va (st0 M))) := hid (Mid.of (colE_left (d == 3) vc va HOK.out.ok HC.out.a.1) (by show 0 + 1 ≤ 10; omega))
  have HVZ := hid hvc
  have HEZ := hid he
  have HDZ := hid hd
  clear hvc he hd
  clear hm hv
  clear hM
  go_enter Tryz.func11, Tryz.ntmps11
  go_upto_region 1 with (fail)
  change Hid (Boxes3 w M note inst vc va e p _ _ _ (((w.alloc (.cells (memV M) 28)).alloc (.cells #[.int .i64 note, .int .i64 inst, .int .i64 vc, .int .i64 va, .int .i64 e, .int .i64 p] 23)).alloc (.cells #[.int .i64 0, .int .i64 0, .int .i64 0, .int .i64 0, .int .i64 0, .int .i64 0, .int .i64 0, .int .i64 0, .int .i64 0, .int .i64 0, .int .i64 0, .int .i64 0, .int .i64 0, .int .i64 0, .int .i64 0, .int .i64 0, .int .i64 0, .int .i64 0, .int .i64 0, .int .i64 0, .int .i64 0, .int .i64 0, .int .i64 0, .int .i64 0, .int .i64 0, .int .i64 0] 28))) at HX
  generalize (((w.alloc (.cells (memV M) 28)).alloc (.cells #[.int .i64 note, .int .i64 inst, .int .i64 vc, .int .i64 va, .int .i64 e, .int .i64 p] 23)).alloc (.cells #[.int .i64 0, .int .i64 0, .int .i64 0, .int .i64 0, .int .i64 0, .int .i64 0, .int .i64 0, .int .i64 0, .int .i64 0, .int .i64 0, .int .i64 0, .int .i64 0, .int .i64 0, .int .i64 0, .int .i64 0, .int .i64 0, .int .i64 0, .int .i64 0, .int .i64 0, .int .i64 0, .int .i64 0, .int .i64 0, .int .i64 0, .int .i64 0, .int .i64 0, .int .i64 0] 28)) = w4 at *
  generalize w.heap.size + 1 + 1 = n3 at *
  generalize w.heap.size + 1 = n2 at *
  obtain ⟨n1, hn1⟩ : ∃ n1, n1 = w.heap.size := ⟨_, rfl⟩
  have HX0 : Hid (Boxes3 w M note inst vc va e p n1 n2 n3 w4) := by rw [hn1]; exact HX
  rw [← hn1]
  clear HX hn1
  go_wp2_with fail
  go_at_call 15
  refine (refquirks_any d w4).mono ?_
  rintro x w5 ⟨rfl, hb⟩
  replace HX0 := hid ((HX0.out.next hb).next (below1 w5 (.cells (qz d) 39)))
  clear hb
  go_upto_region 2 with (refine wpList_store_new rfl 39 _ _ rfl (qz 0) (qz d) rfl rfl (infoq d) (by rw [qz_size, qz_size]) (qz_one d) ?_)
  generalize w5.alloc (.cells (qz d) 39) = w6 at *
  obtain ⟨q2, q3, q4, q5, q6, q7⟩ := HX0.out.cells
  have HQ : Hid (qe d = 0) := hid (if_pos HD.out)
  rw [HQ.out]
  have HR1 := hid (row_M HX0.out.t1)
  go_upto_region 6 with (first | (refine wpList_load_at rfl 28 _ rfl n1 0 rfl (memV M) _ HR1.out Tryz.underlying28 rfl (by rw [memV_size HM.out]; exact size28) ?_) | (go_at_call 30; refine (rmem_is M HM.out _ HMB.out _).mono ?_; rintro x w7 ⟨rfl, hb⟩; replace HX0 := hid (HX0.out.next hb); have HR1 := hid (row_M HX0.out.t1); obtain ⟨q2, q3, q4, q5, q6, q7⟩ := HX0.out.cells; clear hb) | (go_at_call 8; refine (rvalid_is d note inst vc va e p _ HV.out _).mono ?_; rintro x w7 ⟨rfl, hb⟩; replace HX0 := hid (HX0.out.next hb); have HR1 := hid (row_M HX0.out.t1); obtain ⟨q2, q3, q4, q5, q6, q7⟩ := HX0.out.cells; clear hb))
  go_upto_region 7 with (first | (refine wpList_load_at rfl 28 _ rfl n1 0 rfl (memV M) _ HR1.out Tryz.underlying28 rfl (by rw [memV_size HM.out]; exact size28) ?_) | (refine wpList_build_to rfl 58 _ rfl (rask0 M) (Eq.trans (b := Tryz.prog.built 58 [(0, .agg (memV M))]) (by kernel_rfl) HBU.out) ?_))
  have HK := hid (KR.made HX0.out HM.out)
  clear q2 q3 q4 q5 q6 q7
  obtain ⟨q2, q3, q4, q5, q0, q1⟩ := HK.out.cells
  have HSZ := hid HX0.out.below.size
  clear HX0 HR1
  generalize w7.alloc (.cells (rask0 M) 58) = wc0 at *
  generalize w7.heap.size = b at *
  go_upto_region 13 with (first | fail | (go_at_call 31; refine (rcolumn vc va HVC.out.1 HVC.out.2 HC.out.a.1 HC.out.a.2 HK.out.ra HOK.out.ok).mono ?_; rintro x wc1 ⟨rfl, v1, k, g⟩; replace HK := hid (HK.out.step k g); obtain ⟨q2, q3, q4, q5, q0, q1⟩ := HK.out.cells; clear k g) | (go_at_call 33; refine (reff_any d e p HD.out.1 HD.out.2 HEN.out.1 HEN.out.2 HC.out.p.1 HC.out.p.2 HLT.out HK.out.ra HMX.out).mono ?_; rintro x wc3 ⟨rfl, v3, k, g⟩; replace HK := hid (HK.out.step k g); obtain ⟨q2, q3, q4, q5, q0, q1⟩ := HK.out.cells; clear k g))
  have HEX : Hid (askR d note e p vc va M = effR d e p (colE (d == 3) vc va (st0 M))) := hid (by unfold askR; rw [if_neg HDZ.out]; rw [if_neg HEZ.out]; unfold colX; rw [if_pos (by have := HVZ.out; have := HC.out.v.1; omega)])
  clear q0 q1 q2 q3 q4 q5
  generalize effR d e p (colE (d == 3) vc va (st0 M)) = s' at *
  go_wp2_with fail
  refine wp_region_still_tail 9 (by kernel_rfl) (by kernel_rfl) ?_
  simp only [List.take_succ_cons, List.take_zero, List.drop_succ_cons, List.drop_zero]
  obtain ⟨wd, hwd⟩ : ∃ z, z = wc3.drew := ⟨_, rfl⟩
  have hww : ({ wc3 with drawn := wc3.drawn + 1 } : World) = wd := hwd.symm
  rw [hww]
  replace HK : Hid (KR w b n2 n3 note inst vc va e p s' v3 wd) := hid (by rw [hwd]; exact ⟨HK.out.ra.drew, HK.out.t2, HK.out.t3, HK.out.ap, ⟨HK.out.below.os, HK.out.below.tape, HK.out.below.output, HK.out.below.size, HK.out.below.block⟩, HK.out.le⟩)
  clear hww hwd
  have c29 := HK.out.ra.at_.ops
  have HRb := hid HK.out.ra.row
  have HLEN := hid HK.out.ra.len
  have HB3 := hid (Array.getElem?_eq_some_iff.1 HK.out.t3).1
  repeat (first
    | (refine wpStill_step (fun K hK => ?_); rw [if_pos (by rfl)]; refine still_load_at 28 _ (by rfl) b 0 (by rfl) (memV s'.M) _ HRb.out Tryz.underlying28 rfl (by rw [memV_size HLEN.out]; exact size28) ?_; (try simp only [Act.put, List.setIfInBounds_toArray, List.set_cons_zero, List.set_cons_succ]); refine hK _ ?_; clear hK K)
    | still_step)
  refine wpStill_nil ?_
  clear c29
  go_wp2_with (refine wpList_store_block rfl 28 _ _ rfl n3 (memV s'.M) rfl rfl 28 (memV zeroM) HK.out.t3 (by rw [memV_size HLEN.out]; exact size28) (by rw [memV_size HLEN.out]; rfl) (memV_ones _) ?_)
  refine bodyPost_ret (results_tct rfl _ _ n3 28 (memV s'.M) (0, 0) _ rfl (setRow_heap _ _ _ _ _ _ HK.out.t3) Tryz.underlying28 rfl (by rw [memV_size HLEN.out]; exact size28)) rfl ?_
  rw [HEX.out]
  exact ⟨v3, rfl, HK.out.ra.own.kept (grown_row wd n3 (memV s'.M)) (Or.inr fun x => (HK.out.ap n3 (Or.inr rfl)).2.1 x), Below.row HK.out.below HK.out.le _⟩
theorem rres_D (M : List Int) (hM : M.length = 26) (d note inst vc va e p : Int) (hm : memB M = true) (hv : validB d note inst vc va e p = true) (w : World) : Calls Tryz.prog 11 #[.int .i64 d, .agg (memV M), .agg #[.int .i64 note, .int .i64 inst, .int .i64 vc, .int .i64 va, .int .i64 e, .int .i64 p]] w (Res (askX d note e p vc va M).O (askX d note e p vc va M).M 0 w) := by
  obtain ⟨hdd, hc⟩ := validB_cell hv
  obtain ⟨q1, q2⟩ := askR_eq (note := note) (inst := inst) (memB_ok hM hm) hc
  rw [← q1, ← q2]
  by_cases hd : d = 5
  · have hvc : vc = 0 := by have := hc.v; unfold volC at this; rw [hd] at this; simp at this; omega
    by_cases he : e = 0
    · exact rres_D1 M hM d note inst vc va e p hm hv hd hvc he w
    · exact rres_D2 M hM d note inst vc va e p hm hv hd hvc he w
  · by_cases hvc : vc = 0
    · by_cases he : e = 0
      · exact rres_D3 M hM d note inst vc va e p hm hv hd hvc he w
      · exact rres_D4 M hM d note inst vc va e p hm hv hd hvc he w
    · by_cases he : e = 0
      · exact rres_D5 M hM d note inst vc va e p hm hv hd hvc he w
      · exact rres_D6 M hM d note inst vc va e p hm hv hd hvc he w
theorem rres_any (M : List Int) (hM : M.length = 26) (d note inst vc va e p : Int) (w : World) : Calls Tryz.prog 11 #[.int .i64 d, .agg (memV M), .agg #[.int .i64 note, .int .i64 inst, .int .i64 vc, .int .i64 va, .int .i64 e, .int .i64 p]] w (Res (resO d note inst vc va e p M) (resM d note inst vc va e p M) (resC d note inst vc va e p M) w) := by
  unfold resO resM resC
  by_cases hd : 1 ≤ d ∧ d ≤ 6
  · have hD : isD d = true := by unfold isD; rw [decide_eq_true hd.1, decide_eq_true hd.2]; rfl
    rw [if_pos hD]
    cases hm : memB M with
    | false => exact rres_B M hM d note inst vc va e p hd.1 hd.2 hm w
    | true =>
      cases hv : validB d note inst vc va e p with
      | false => exact rres_C M hM d note inst vc va e p hd.1 hd.2 hm hv w
      | true => exact rres_D M hM d note inst vc va e p hm hv w
  · have hD : isD d = false := by unfold isD; rw [Bool.and_eq_false_iff, decide_eq_false_iff_not, decide_eq_false_iff_not]; omega
    have hv : validB d note inst vc va e p = false := by unfold validB; rw [hD]; rfl
    rw [hD, hv, Bool.and_false]
    exact rres_A M hM d note inst vc va e p hd w
end Go.Proofs.YtkpielgdfahanaaGreat
