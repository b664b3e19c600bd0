/- The reference's ValidCell. -/
import Derived.Test.YtkpielgdfahanaaGreatPValid
namespace Go.Proofs.YtkpielgdfahanaaGreat
open Go.RowKit Go.Maps
theorem has_is (s : ByteArray) (c : Int) (b : Bool) (h : hasL s.data.toList c = b) (hl : s.data.toList.length ≤ 100) (w : World) : Calls Tryz.prog 27 #[.string s, .int .u8 c] w fun e w' => e = .returned (.bool b) ∧ w = w' := by
  subst h
  have := has_any s.data.toList c w hl
  have e : (⟨s.data.toList.toArray⟩ : ByteArray) = s := by cases s; simp
  rw [e] at this
  exact this
theorem letS_len (d : Int) : (letS d).data.toList.length ≤ 100 := by
  unfold letS
  repeat' split
  all_goals decide
theorem qe_ok {d : Int} (h : 1 ≤ d ∧ d ≤ 6) : qe d = 0 := if_pos h
theorem qe_no {d : Int} (h : ¬ (1 ≤ d ∧ d ≤ 6)) : qe d = 6 := if_neg h
theorem belowW_step {w w1 w2 : World} (h : BelowW w w1) (k : Below w1.heap.size w1 w2) : BelowW w w2 := Below.step h k
set_option maxHeartbeats 4000000 in
set_option maxRecDepth 100000 in
theorem rvalid_A (d note inst vc va e p : Int) (hd : ¬ (1 ≤ d ∧ d ≤ 6)) (w : World) : Calls Tryz.prog 8 #[.int .i64 d, .agg #[.int .i64 note, .int .i64 inst, .int .i64 vc, .int .i64 va, .int .i64 e, .int .i64 p]] w fun x w' => x = .returned (.bool false) ∧ BelowW w w' := by
  have HE := hid (qe_no hd)
  clear hd
  have HS := hid (Six.box note inst vc va e p w)
  have HB : BelowW w (w.alloc (.cells #[.int .i64 note, .int .i64 inst, .int .i64 vc, .int .i64 va, .int .i64 e, .int .i64 p] 23)) := below1 w _
  have HQ := hid (refquirks_any d (w.alloc (.cells #[.int .i64 note, .int .i64 inst, .int .i64 vc, .int .i64 va, .int .i64 e, .int .i64 p] 23)))
  go_enter Tryz.func8, Tryz.ntmps8
  go_upto_region 1 with (fail)
  generalize w.alloc (.cells #[.int .i64 note, .int .i64 inst, .int .i64 vc, .int .i64 va, .int .i64 e, .int .i64 p] 23) = w0 at *
  generalize w.heap.size = g at *
  go_wp2_with fail
  go_at_call 15
  refine HQ.out.mono ?_
  rintro x w2 ⟨rfl, hb⟩
  rw [HE.out]
  replace HS := hid (HS.out.next hb)
  replace HB := belowW_step HB hb
  clear hb HQ
  go_upto_region 2 with (refine wpList_store_new rfl 39 _ _ rfl (qz 0) (qz d) rfl rfl (infoq d) (by rw [qz_size, qz_size]) (qz_one d) ?_)
  replace HS := hid (HS.out.next (below1 w2 (.cells (qz d) 39)))
  replace HB := belowW_step HB (below1 w2 (.cells (qz d) 39))
  generalize w2.alloc (.cells (qz d) 39) = w3 at *
  generalize w2.heap.size = g5 at *
  obtain ⟨q0, q1, q2, q3, q4, q5, -⟩ := HS.out
  go_wp2
  go_ret
  exact ⟨rfl, HB⟩
set_option maxHeartbeats 4000000 in
set_option maxRecDepth 100000 in
theorem rvalid_B (d note inst vc va e p : Int) (d1 : 1 ≤ d) (d2 : d ≤ 6) (hc : cellB note inst vc va e p = false) (w : World) : Calls Tryz.prog 8 #[.int .i64 d, .agg #[.int .i64 note, .int .i64 inst, .int .i64 vc, .int .i64 va, .int .i64 e, .int .i64 p]] w fun x w' => x = .returned (.bool false) ∧ BelowW w w' := by
  have HE := hid (qe_ok ⟨d1, d2⟩)
  have HC := hid hc
  clear d1 d2 hc
  have HS := hid (Six.box note inst vc va e p w)
  have HB : BelowW w (w.alloc (.cells #[.int .i64 note, .int .i64 inst, .int .i64 vc, .int .i64 va, .int .i64 e, .int .i64 p] 23)) := below1 w _
  have HQ := hid (refquirks_any d (w.alloc (.cells #[.int .i64 note, .int .i64 inst, .int .i64 vc, .int .i64 va, .int .i64 e, .int .i64 p] 23)))
  go_enter Tryz.func8, Tryz.ntmps8
  go_upto_region 1 with (fail)
  generalize w.alloc (.cells #[.int .i64 note, .int .i64 inst, .int .i64 vc, .int .i64 va, .int .i64 e, .int .i64 p] 23) = w0 at *
  generalize w.heap.size = g at *
  go_wp2_with fail
  go_at_call 15
  refine HQ.out.mono ?_
  rintro x w2 ⟨rfl, hb⟩
  rw [HE.out]
  replace HS := hid (HS.out.next hb)
  replace HB := belowW_step HB hb
  clear hb HQ
  go_upto_region 2 with (refine wpList_store_new rfl 39 _ _ rfl (qz 0) (qz d) rfl rfl (infoq d) (by rw [qz_size, qz_size]) (qz_one d) ?_)
  replace HS := hid (HS.out.next (below1 w2 (.cells (qz d) 39)))
  replace HB := belowW_step HB (below1 w2 (.cells (qz d) 39))
  generalize w2.alloc (.cells (qz d) 39) = w3 at *
  generalize w2.heap.size = g5 at *
  obtain ⟨q0, q1, q2, q3, q4, q5, -⟩ := HS.out
  go_wp2_with fail
  go_at_call 24
  refine (vcell24_is note inst vc va e p _ HC.out _).mono ?_
  rintro x w4 ⟨rfl, hb⟩
  replace HS := hid (HS.out.next hb)
  replace HB := belowW_step HB hb
  clear hb q0 q1 q2 q3 q4 q5
  go_wp2
  go_ret
  exact ⟨rfl, HB⟩
theorem Six.self {g : Nat} {note inst vc va e p : Int} {w1 w2 : World} (h : Six g note inst vc va e p w1 w2) : Six g note inst vc va e p w2 w2 := by
  obtain ⟨h0, h1, h2, h3, h4, h5, h6⟩ := h
  exact ⟨h0, h1, h2, h3, h4, h5, Below.refl _ _⟩
set_option maxHeartbeats 4000000 in
set_option maxRecDepth 100000 in
theorem rvalid_C (d note inst vc va e p : Int) (d1 : 1 ≤ d) (d2 : d ≤ 6) (hc : cellB note inst vc va e p = true) (hn : noteD d note = false) (w : World) : Calls Tryz.prog 8 #[.int .i64 d, .agg #[.int .i64 note, .int .i64 inst, .int .i64 vc, .int .i64 va, .int .i64 e, .int .i64 p]] w fun x w' => x = .returned (.bool false) ∧ BelowW w w' := by
  have HE := hid (qe_ok ⟨d1, d2⟩)
  have HC := hid hc
  have HN := hid hn
  clear d1 d2 hc hn
  have HS := hid (Six.box note inst vc va e p w)
  have HB : BelowW w (w.alloc (.cells #[.int .i64 note, .int .i64 inst, .int .i64 vc, .int .i64 va, .int .i64 e, .int .i64 p] 23)) := below1 w _
  have HQ := hid (refquirks_any d (w.alloc (.cells #[.int .i64 note, .int .i64 inst, .int .i64 vc, .int .i64 va, .int .i64 e, .int .i64 p] 23)))
  go_enter Tryz.func8, Tryz.ntmps8
  go_upto_region 1 with (fail)
  generalize w.alloc (.cells #[.int .i64 note, .int .i64 inst, .int .i64 vc, .int .i64 va, .int .i64 e, .int .i64 p] 23) = w0 at *
  generalize w.heap.size = g at *
  go_wp2_with fail
  go_at_call 15
  refine HQ.out.mono ?_
  rintro x w2 ⟨rfl, hb⟩
  rw [HE.out]
  replace HS := hid (HS.out.next hb)
  replace HB := belowW_step HB hb
  clear hb HQ
  go_upto_region 2 with (refine wpList_store_new rfl 39 _ _ rfl (qz 0) (qz d) rfl rfl (infoq d) (by rw [qz_size, qz_size]) (qz_one d) ?_)
  replace HS := hid (HS.out.next (below1 w2 (.cells (qz d) 39)))
  replace HB := belowW_step HB (below1 w2 (.cells (qz d) 39))
  generalize w2.alloc (.cells (qz d) 39) = w3 at *
  generalize w2.heap.size = g5 at *
  obtain ⟨q0, q1, q2, q3, q4, q5, -⟩ := HS.out
  go_wp2_with fail
  go_at_call 24
  refine (vcell24_is note inst vc va e p _ HC.out _).mono ?_
  rintro x w4 ⟨rfl, hb⟩
  replace HS := hid (HS.out.next hb)
  replace HB := belowW_step HB hb
  clear hb q0 q1 q2 q3 q4 q5
  go_upto_region 4 with (fail)
  have HS4 : Hid (Six g note inst vc va e p w4 w4) := hid (HS.out.self)
  obtain ⟨w1, hw1⟩ : ∃ z, z = w4 := ⟨_, rfl⟩
  rw [← hw1] at HS4 HB ⊢
  clear HS hw1
  refine wp_region_pure (n := 25) (fun X => #[.int .i64 d, .agg #[.int .i64 note, .int .i64 inst, .int .i64 vc, .int .i64 va, .int .i64 e, .int .i64 p], undef, .pointer (some ⟨g, 0, none⟩), X 24, .pointer (some ⟨g5, 0, none⟩), .int .i64 0, .tuple #[.agg (qz d), .int .i64 0], .int .i64 d, .tuple #[.agg (qz d), .int .i64 0], .agg (qz d), .int .i64 0, .int .i64 0, .bool false, .bool false, .agg #[.int .i64 note, .int .i64 inst, .int .i64 vc, .int .i64 va, .int .i64 e, .int .i64 p], .bool true, .bool false, .bool false, X 0, X 1, X 2, X 3, X 4, X 5, X 6, X 7, X 8, X 9, X 10, X 11, X 12, X 13, X 14, X 15, X 16, X 17, X 18, X 19, X 20, X 21, X 22, X 23]) (fun j => match j with | 0 => .int .i64 d | 1 => .pointer (some ⟨g, 0, none⟩) | 2 => .int .i64 note | 3 => .bool false | 4 => .bool false | 5 => undef | 6 => undef | 7 => undef | 8 => undef | 9 => undef | 10 => .bool false | 11 => .bool false | 12 => undef | 13 => undef | 14 => undef | 15 => undef | 16 => undef | 17 => undef | 18 => undef | 19 => undef | 20 => undef | 21 => undef | 22 => undef | 23 => .bool false | 24 => .bool false | _ => undef) (Six g note inst vc va e p w1) (fun j => match j with | 24 => .bool false | _ => undef) (by kernel_rfl) rfl (by kernel_rfl) rfl ?hR0 ?hfr ?hstep ?hend
  case hR0 => exact HS4.out.drew
  case hfr =>
    intro X h
    simp only [h 0 (by decide), h 1 (by decide), h 2 (by decide), h 3 (by decide), h 4 (by decide), h 5 (by decide), h 6 (by decide), h 7 (by decide), h 8 (by decide), h 9 (by decide), h 10 (by decide), h 11 (by decide), h 12 (by decide), h 13 (by decide), h 14 (by decide), h 15 (by decide), h 16 (by decide), h 17 (by decide), h 18 (by decide), h 19 (by decide), h 20 (by decide), h 21 (by decide), h 22 (by decide), h 23 (by decide), h 24 (by decide)]
  case hstep =>
    intro i oi hoi X w5 h hR
    match i, hoi with
    | 0, hoi =>
      cases hoi
      clear h
      refine wpOp_do rfl rfl ?_
      go_simp
      exact ⟨rfl, hR⟩
    | 1, hoi =>
      cases hoi
      clear h
      refine wpOp_do rfl rfl ?_
      go_simp
      exact ⟨rfl, hR⟩
    | 2, hoi =>
      cases hoi
      have x1 : X 1 = .pointer (some ⟨g, 0, none⟩) := h ⟨1, .data⟩ (by simp) (by rfl)
      clear h
      refine wpOp_do rfl rfl ?_
      simp only [x1]
      obtain ⟨q0, q1, q2, q3, q4, q5, -⟩ := id hR
      go_simp
      refine Stepped.mk2 (fun j => if j = 2 then .int .i64 note else if j = 1 then .pointer (some ⟨g, 0, none⟩) else X j) (fun j hj => ?_) rfl hR
      rw [if_neg hj]
      by_cases e1 : j = 1
      · subst e1; exact x1.symm
      rw [if_neg e1]
    | 3, hoi =>
      cases hoi
      have x0 : X 0 = .int .i64 d := h ⟨0, .data⟩ (by simp) (by rfl)
      have x2 : X 2 = .int .i64 note := h ⟨2, .data⟩ (by simp) (by rfl)
      clear h
      refine wpOp_do rfl rfl ?_
      simp only [x0, x2]
      go_simp
      go_at_call 25
      refine (rnoted_is d note _ HN.out _).mono ?_
      rintro x w6 ⟨rfl, hb⟩
      go_simp
      refine Stepped.mk2 (fun j => if j = 3 then .bool false else if j = 0 then .int .i64 d else if j = 2 then .int .i64 note else X j) (fun j hj => ?_) rfl (hR.next hb)
      rw [if_neg hj]
      by_cases e0 : j = 0
      · subst e0; exact x0.symm
      rw [if_neg e0]
      by_cases e2 : j = 2
      · subst e2; exact x2.symm
      rw [if_neg e2]
    | 4, hoi =>
      cases hoi
      have x3 : X 3 = .bool false := h ⟨3, .data⟩ (by simp) (by rfl)
      clear h
      refine wpOp_do rfl rfl ?_
      simp only [x3]
      go_simp
      refine Stepped.mk2 (fun j => if j = 4 then .bool false else if j = 3 then .bool false else X j) (fun j hj => ?_) rfl hR
      rw [if_neg hj]
      by_cases e3 : j = 3
      · subst e3; exact x3.symm
      rw [if_neg e3]
    | 5, hoi =>
      cases hoi
      have x4 : X 4 = .bool false := h ⟨4, .guard⟩ (by simp) (by rfl)
      refine wpOp_skip rfl ?_ ⟨?_, hR⟩
      · show Region.wanted _ (yielded _ _) = false
        simp only [x4]
        rfl
      · rfl
    | 6, hoi =>
      cases hoi
      have x5 : X 5 = undef := h ⟨5, .data⟩ (by simp) (by rfl)
      have x4 : X 4 = .bool false := h ⟨4, .guard⟩ (by simp) (by rfl)
      refine wpOp_skip rfl ?_ ⟨?_, hR⟩
      · show Region.wanted _ (yielded _ _) = false
        simp only [x4, x5]
        rfl
      · rfl
    | 7, hoi =>
      cases hoi
      have x4 : X 4 = .bool false := h ⟨4, .guard⟩ (by simp) (by rfl)
      refine wpOp_skip rfl ?_ ⟨?_, hR⟩
      · show Region.wanted _ (yielded _ _) = false
        simp only [x4]
        rfl
      · rfl
    | 8, hoi =>
      cases hoi
      have x7 : X 7 = undef := h ⟨7, .data⟩ (by simp) (by rfl)
      have x4 : X 4 = .bool false := h ⟨4, .chain⟩ (by simp) (by rfl)
      refine wpOp_skip rfl ?_ ⟨?_, hR⟩
      · show Region.wanted _ (yielded _ _) = false
        simp only [x4, x7]
        rfl
      · rfl
    | 9, hoi =>
      cases hoi
      have x6 : X 6 = undef := h ⟨6, .data⟩ (by simp) (by rfl)
      have x8 : X 8 = undef := h ⟨8, .data⟩ (by simp) (by rfl)
      have x4 : X 4 = .bool false := h ⟨4, .guard⟩ (by simp) (by rfl)
      refine wpOp_skip rfl ?_ ⟨?_, hR⟩
      · show Region.wanted _ (yielded _ _) = false
        simp only [x4, x6, x8]
        rfl
      · rfl
    | 10, hoi =>
      cases hoi
      have x4 : X 4 = .bool false := h ⟨4, .data⟩ (by simp) (by rfl)
      have x9 : X 9 = undef := h ⟨9, .data⟩ (by simp) (by rfl)
      clear h
      refine wpOp_do rfl rfl ?_
      simp only [x4, x9]
      go_simp
      refine Stepped.mk2 (fun j => if j = 10 then .bool false else if j = 4 then .bool false else if j = 9 then undef else X j) (fun j hj => ?_) rfl hR
      rw [if_neg hj]
      by_cases e4 : j = 4
      · subst e4; exact x4.symm
      rw [if_neg e4]
      by_cases e9 : j = 9
      · subst e9; exact x9.symm
      rw [if_neg e9]
    | 11, hoi =>
      cases hoi
      have x10 : X 10 = .bool false := h ⟨10, .data⟩ (by simp) (by rfl)
      have x8 : X 8 = undef := h ⟨8, .chain⟩ (by simp) (by rfl)
      clear h
      refine wpOp_do rfl rfl ?_
      simp only [x8, x10]
      go_simp
      refine Stepped.mk2 (fun j => if j = 11 then .bool false else if j = 8 then undef else if j = 10 then .bool false else X j) (fun j hj => ?_) rfl hR
      rw [if_neg hj]
      by_cases e8 : j = 8
      · subst e8; exact x8.symm
      rw [if_neg e8]
      by_cases e10 : j = 10
      · subst e10; exact x10.symm
      rw [if_neg e10]
    | 12, hoi =>
      cases hoi
      have x11 : X 11 = .bool false := h ⟨11, .guard⟩ (by simp) (by rfl)
      refine wpOp_skip rfl ?_ ⟨?_, hR⟩
      · show Region.wanted _ (yielded _ _) = false
        simp only [x11]
        rfl
      · rfl
    | 13, hoi =>
      cases hoi
      have x12 : X 12 = undef := h ⟨12, .data⟩ (by simp) (by rfl)
      have x11 : X 11 = .bool false := h ⟨11, .guard⟩ (by simp) (by rfl)
      refine wpOp_skip rfl ?_ ⟨?_, hR⟩
      · show Region.wanted _ (yielded _ _) = false
        simp only [x11, x12]
        rfl
      · rfl
    | 14, hoi =>
      cases hoi
      have x13 : X 13 = undef := h ⟨13, .data⟩ (by simp) (by rfl)
      have x11 : X 11 = .bool false := h ⟨11, .guard⟩ (by simp) (by rfl)
      refine wpOp_skip rfl ?_ ⟨?_, hR⟩
      · show Region.wanted _ (yielded _ _) = false
        simp only [x11, x13]
        rfl
      · rfl
    | 15, hoi =>
      cases hoi
      have x14 : X 14 = undef := h ⟨14, .data⟩ (by simp) (by rfl)
      have x11 : X 11 = .bool false := h ⟨11, .chain⟩ (by simp) (by rfl)
      refine wpOp_skip rfl ?_ ⟨?_, hR⟩
      · show Region.wanted _ (yielded _ _) = false
        simp only [x11, x14]
        rfl
      · rfl
    | 16, hoi =>
      cases hoi
      have x15 : X 15 = undef := h ⟨15, .guard⟩ (by simp) (by rfl)
      refine wpOp_skip rfl ?_ ⟨?_, hR⟩
      · show Region.wanted _ (yielded _ _) = false
        simp only [x15]
        rfl
      · rfl
    | 17, hoi =>
      cases hoi
      have x16 : X 16 = undef := h ⟨16, .data⟩ (by simp) (by rfl)
      have x15 : X 15 = undef := h ⟨15, .chain⟩ (by simp) (by rfl)
      refine wpOp_skip rfl ?_ ⟨?_, hR⟩
      · show Region.wanted _ (yielded _ _) = false
        simp only [x15, x16]
        rfl
      · rfl
    | 18, hoi =>
      cases hoi
      have x15 : X 15 = undef := h ⟨15, .guard⟩ (by simp) (by rfl)
      refine wpOp_skip rfl ?_ ⟨?_, hR⟩
      · show Region.wanted _ (yielded _ _) = false
        simp only [x15]
        rfl
      · rfl
    | 19, hoi =>
      cases hoi
      have x18 : X 18 = undef := h ⟨18, .data⟩ (by simp) (by rfl)
      have x15 : X 15 = undef := h ⟨15, .guard⟩ (by simp) (by rfl)
      refine wpOp_skip rfl ?_ ⟨?_, hR⟩
      · show Region.wanted _ (yielded _ _) = false
        simp only [x15, x18]
        rfl
      · rfl
    | 20, hoi =>
      cases hoi
      have x19 : X 19 = undef := h ⟨19, .data⟩ (by simp) (by rfl)
      have x17 : X 17 = undef := h ⟨17, .chain⟩ (by simp) (by rfl)
      have x15 : X 15 = undef := h ⟨15, .guard⟩ (by simp) (by rfl)
      refine wpOp_skip rfl ?_ ⟨?_, hR⟩
      · show Region.wanted _ (yielded _ _) = false
        simp only [x15, x17, x19]
        rfl
      · rfl
    | 21, hoi =>
      cases hoi
      have x17 : X 17 = undef := h ⟨17, .data⟩ (by simp) (by rfl)
      have x20 : X 20 = undef := h ⟨20, .data⟩ (by simp) (by rfl)
      have x15 : X 15 = undef := h ⟨15, .guard⟩ (by simp) (by rfl)
      refine wpOp_skip rfl ?_ ⟨?_, hR⟩
      · show Region.wanted _ (yielded _ _) = false
        simp only [x15, x17, x20]
        rfl
      · rfl
    | 22, hoi =>
      cases hoi
      have x15 : X 15 = undef := h ⟨15, .data⟩ (by simp) (by rfl)
      have x21 : X 21 = undef := h ⟨21, .data⟩ (by simp) (by rfl)
      have x11 : X 11 = .bool false := h ⟨11, .guard⟩ (by simp) (by rfl)
      refine wpOp_skip rfl ?_ ⟨?_, hR⟩
      · show Region.wanted _ (yielded _ _) = false
        simp only [x11, x15, x21]
        rfl
      · rfl
    | 23, hoi =>
      cases hoi
      have x11 : X 11 = .bool false := h ⟨11, .data⟩ (by simp) (by rfl)
      have x22 : X 22 = undef := h ⟨22, .data⟩ (by simp) (by rfl)
      clear h
      refine wpOp_do rfl rfl ?_
      simp only [x11, x22]
      go_simp
      refine Stepped.mk2 (fun j => if j = 23 then .bool false else if j = 11 then .bool false else if j = 22 then undef else X j) (fun j hj => ?_) rfl hR
      rw [if_neg hj]
      by_cases e11 : j = 11
      · subst e11; exact x11.symm
      rw [if_neg e11]
      by_cases e22 : j = 22
      · subst e22; exact x22.symm
      rw [if_neg e22]
    | 24, hoi =>
      cases hoi
      have x23 : X 23 = .bool false := h ⟨23, .data⟩ (by simp) (by rfl)
      have x21 : X 21 = undef := h ⟨21, .chain⟩ (by simp) (by rfl)
      have x0 : X 0 = .int .i64 d := h ⟨0, .phase⟩ (by simp) (by rfl)
      have x1 : X 1 = .pointer (some ⟨g, 0, none⟩) := h ⟨1, .phase⟩ (by simp) (by rfl)
      have x2 : X 2 = .int .i64 note := h ⟨2, .phase⟩ (by simp) (by rfl)
      have x3 : X 3 = .bool false := h ⟨3, .phase⟩ (by simp) (by rfl)
      have x4 : X 4 = .bool false := h ⟨4, .phase⟩ (by simp) (by rfl)
      have x5 : X 5 = undef := h ⟨5, .phase⟩ (by simp) (by rfl)
      have x6 : X 6 = undef := h ⟨6, .phase⟩ (by simp) (by rfl)
      have x7 : X 7 = undef := h ⟨7, .phase⟩ (by simp) (by rfl)
      have x8 : X 8 = undef := h ⟨8, .phase⟩ (by simp) (by rfl)
      have x9 : X 9 = undef := h ⟨9, .phase⟩ (by simp) (by rfl)
      have x10 : X 10 = .bool false := h ⟨10, .phase⟩ (by simp) (by rfl)
      have x11 : X 11 = .bool false := h ⟨11, .phase⟩ (by simp) (by rfl)
      have x12 : X 12 = undef := h ⟨12, .phase⟩ (by simp) (by rfl)
      have x13 : X 13 = undef := h ⟨13, .phase⟩ (by simp) (by rfl)
      have x14 : X 14 = undef := h ⟨14, .phase⟩ (by simp) (by rfl)
      have x15 : X 15 = undef := h ⟨15, .phase⟩ (by simp) (by rfl)
      have x16 : X 16 = undef := h ⟨16, .phase⟩ (by simp) (by rfl)
      have x17 : X 17 = undef := h ⟨17, .phase⟩ (by simp) (by rfl)
      have x18 : X 18 = undef := h ⟨18, .phase⟩ (by simp) (by rfl)
      have x19 : X 19 = undef := h ⟨19, .phase⟩ (by simp) (by rfl)
      have x20 : X 20 = undef := h ⟨20, .phase⟩ (by simp) (by rfl)
      have x22 : X 22 = undef := h ⟨22, .phase⟩ (by simp) (by rfl)
      clear h
      refine wpOp_do rfl rfl ?_
      simp only [x0, x1, x2, x3, x4, x5, x6, x7, x8, x9, x10, x11, x12, x13, x14, x15, x16, x17, x18, x19, x20, x21, x22, x23]
      go_simp
      refine Stepped.mk2 (fun j => if j = 24 then .bool false else if j = 0 then .int .i64 d else if j = 1 then .pointer (some ⟨g, 0, none⟩) else if j = 2 then .int .i64 note else if j = 3 then .bool false else if j = 4 then .bool false else if j = 5 then undef else if j = 6 then undef else if j = 7 then undef else if j = 8 then undef else if j = 9 then undef else if j = 10 then .bool false else if j = 11 then .bool false else if j = 12 then undef else if j = 13 then undef else if j = 14 then undef else if j = 15 then undef else if j = 16 then undef else if j = 17 then undef else if j = 18 then undef else if j = 19 then undef else if j = 20 then undef else if j = 21 then undef else if j = 22 then undef else if j = 23 then .bool false else X j) (fun j hj => ?_) rfl hR
      rw [if_neg hj]
      by_cases e0 : j = 0
      · subst e0; exact x0.symm
      rw [if_neg e0]
      by_cases e1 : j = 1
      · subst e1; exact x1.symm
      rw [if_neg e1]
      by_cases e2 : j = 2
      · subst e2; exact x2.symm
      rw [if_neg e2]
      by_cases e3 : j = 3
      · subst e3; exact x3.symm
      rw [if_neg e3]
      by_cases e4 : j = 4
      · subst e4; exact x4.symm
      rw [if_neg e4]
      by_cases e5 : j = 5
      · subst e5; exact x5.symm
      rw [if_neg e5]
      by_cases e6 : j = 6
      · subst e6; exact x6.symm
      rw [if_neg e6]
      by_cases e7 : j = 7
      · subst e7; exact x7.symm
      rw [if_neg e7]
      by_cases e8 : j = 8
      · subst e8; exact x8.symm
      rw [if_neg e8]
      by_cases e9 : j = 9
      · subst e9; exact x9.symm
      rw [if_neg e9]
      by_cases e10 : j = 10
      · subst e10; exact x10.symm
      rw [if_neg e10]
      by_cases e11 : j = 11
      · subst e11; exact x11.symm
      rw [if_neg e11]
      by_cases e12 : j = 12
      · subst e12; exact x12.symm
      rw [if_neg e12]
      by_cases e13 : j = 13
      · subst e13; exact x13.symm
      rw [if_neg e13]
      by_cases e14 : j = 14
      · subst e14; exact x14.symm
      rw [if_neg e14]
      by_cases e15 : j = 15
      · subst e15; exact x15.symm
      rw [if_neg e15]
      by_cases e16 : j = 16
      · subst e16; exact x16.symm
      rw [if_neg e16]
      by_cases e17 : j = 17
      · subst e17; exact x17.symm
      rw [if_neg e17]
      by_cases e18 : j = 18
      · subst e18; exact x18.symm
      rw [if_neg e18]
      by_cases e19 : j = 19
      · subst e19; exact x19.symm
      rw [if_neg e19]
      by_cases e20 : j = 20
      · subst e20; exact x20.symm
      rw [if_neg e20]
      by_cases e21 : j = 21
      · subst e21; exact x21.symm
      rw [if_neg e21]
      by_cases e22 : j = 22
      · subst e22; exact x22.symm
      rw [if_neg e22]
      by_cases e23 : j = 23
      · subst e23; exact x23.symm
      rw [if_neg e23]
    | i + 25, hoi => simp at hoi
  case hend =>
    intro w5 hR
    dsimp only
    go_wp2
    go_ret
    exact ⟨rfl, hR.bel HB⟩
set_option maxHeartbeats 4000000 in
set_option maxRecDepth 100000 in
theorem rvalid_D (d note inst vc va e p : Int) (d1 : 1 ≤ d) (d2 : d ≤ 6) (hc : cellB note inst vc va e p = true) (hn : noteD d note = true) (hv : volC d < vc) (w : World) : Calls Tryz.prog 8 #[.int .i64 d, .agg #[.int .i64 note, .int .i64 inst, .int .i64 vc, .int .i64 va, .int .i64 e, .int .i64 p]] w fun x w' => x = .returned (.bool false) ∧ BelowW w w' := by
  have HE := hid (qe_ok ⟨d1, d2⟩)
  have HC := hid hc
  have HN := hid hn
  have hv1 := decide_eq_false (show ¬ vc ≤ volC d by omega)
  clear hv
  clear d1 d2 hc hn
  have HS := hid (Six.box note inst vc va e p w)
  have HB : BelowW w (w.alloc (.cells #[.int .i64 note, .int .i64 inst, .int .i64 vc, .int .i64 va, .int .i64 e, .int .i64 p] 23)) := below1 w _
  have HQ := hid (refquirks_any d (w.alloc (.cells #[.int .i64 note, .int .i64 inst, .int .i64 vc, .int .i64 va, .int .i64 e, .int .i64 p] 23)))
  go_enter Tryz.func8, Tryz.ntmps8
  go_upto_region 1 with (fail)
  generalize w.alloc (.cells #[.int .i64 note, .int .i64 inst, .int .i64 vc, .int .i64 va, .int .i64 e, .int .i64 p] 23) = w0 at *
  generalize w.heap.size = g at *
  go_wp2_with fail
  go_at_call 15
  refine HQ.out.mono ?_
  rintro x w2 ⟨rfl, hb⟩
  rw [HE.out]
  replace HS := hid (HS.out.next hb)
  replace HB := belowW_step HB hb
  clear hb HQ
  go_upto_region 2 with (refine wpList_store_new rfl 39 _ _ rfl (qz 0) (qz d) rfl rfl (infoq d) (by rw [qz_size, qz_size]) (qz_one d) ?_)
  replace HS := hid (HS.out.next (below1 w2 (.cells (qz d) 39)))
  replace HB := belowW_step HB (below1 w2 (.cells (qz d) 39))
  generalize w2.alloc (.cells (qz d) 39) = w3 at *
  generalize w2.heap.size = g5 at *
  obtain ⟨q0, q1, q2, q3, q4, q5, -⟩ := HS.out
  go_wp2_with fail
  go_at_call 24
  refine (vcell24_is note inst vc va e p _ HC.out _).mono ?_
  rintro x w4 ⟨rfl, hb⟩
  replace HS := hid (HS.out.next hb)
  replace HB := belowW_step HB hb
  clear hb q0 q1 q2 q3 q4 q5
  go_upto_region 4 with (fail)
  have HS4 : Hid (Six g note inst vc va e p w4 w4) := hid (HS.out.self)
  obtain ⟨w1, hw1⟩ : ∃ z, z = w4 := ⟨_, rfl⟩
  rw [← hw1] at HS4 HB ⊢
  clear HS hw1
  refine wp_region_pure (n := 25) (fun X => #[.int .i64 d, .agg #[.int .i64 note, .int .i64 inst, .int .i64 vc, .int .i64 va, .int .i64 e, .int .i64 p], undef, .pointer (some ⟨g, 0, none⟩), X 24, .pointer (some ⟨g5, 0, none⟩), .int .i64 0, .tuple #[.agg (qz d), .int .i64 0], .int .i64 d, .tuple #[.agg (qz d), .int .i64 0], .agg (qz d), .int .i64 0, .int .i64 0, .bool false, .bool false, .agg #[.int .i64 note, .int .i64 inst, .int .i64 vc, .int .i64 va, .int .i64 e, .int .i64 p], .bool true, .bool false, .bool false, X 0, X 1, X 2, X 3, X 4, X 5, X 6, X 7, X 8, X 9, X 10, X 11, X 12, X 13, X 14, X 15, X 16, X 17, X 18, X 19, X 20, X 21, X 22, X 23]) (fun j => match j with | 0 => .int .i64 d | 1 => .pointer (some ⟨g, 0, none⟩) | 2 => .int .i64 note | 3 => .bool true | 4 => .bool true | 5 => .pointer (some ⟨g, 2, none⟩) | 6 => .int .i64 vc | 7 => .int .i64 d | 8 => .int .i64 (volC d) | 9 => .bool false | 10 => .bool false | 11 => .bool false | 12 => undef | 13 => undef | 14 => undef | 15 => undef | 16 => undef | 17 => undef | 18 => undef | 19 => undef | 20 => undef | 21 => undef | 22 => undef | 23 => .bool false | 24 => .bool false | _ => undef) (Six g note inst vc va e p w1) (fun j => match j with | 24 => .bool false | _ => undef) (by kernel_rfl) rfl (by kernel_rfl) rfl ?hR0 ?hfr ?hstep ?hend
  case hR0 => exact HS4.out.drew
  case hfr =>
    intro X h
    simp only [h 0 (by decide), h 1 (by decide), h 2 (by decide), h 3 (by decide), h 4 (by decide), h 5 (by decide), h 6 (by decide), h 7 (by decide), h 8 (by decide), h 9 (by decide), h 10 (by decide), h 11 (by decide), h 12 (by decide), h 13 (by decide), h 14 (by decide), h 15 (by decide), h 16 (by decide), h 17 (by decide), h 18 (by decide), h 19 (by decide), h 20 (by decide), h 21 (by decide), h 22 (by decide), h 23 (by decide), h 24 (by decide)]
  case hstep =>
    intro i oi hoi X w5 h hR
    match i, hoi with
    | 0, hoi =>
      cases hoi
      clear h
      refine wpOp_do rfl rfl ?_
      go_simp
      exact ⟨rfl, hR⟩
    | 1, hoi =>
      cases hoi
      clear h
      refine wpOp_do rfl rfl ?_
      go_simp
      exact ⟨rfl, hR⟩
    | 2, hoi =>
      cases hoi
      have x1 : X 1 = .pointer (some ⟨g, 0, none⟩) := h ⟨1, .data⟩ (by simp) (by rfl)
      clear h
      refine wpOp_do rfl rfl ?_
      simp only [x1]
      obtain ⟨q0, q1, q2, q3, q4, q5, -⟩ := id hR
      go_simp
      refine Stepped.mk2 (fun j => if j = 2 then .int .i64 note else if j = 1 then .pointer (some ⟨g, 0, none⟩) else X j) (fun j hj => ?_) rfl hR
      rw [if_neg hj]
      by_cases e1 : j = 1
      · subst e1; exact x1.symm
      rw [if_neg e1]
    | 3, hoi =>
      cases hoi
      have x0 : X 0 = .int .i64 d := h ⟨0, .data⟩ (by simp) (by rfl)
      have x2 : X 2 = .int .i64 note := h ⟨2, .data⟩ (by simp) (by rfl)
      clear h
      refine wpOp_do rfl rfl ?_
      simp only [x0, x2]
      go_simp
      go_at_call 25
      refine (rnoted_is d note _ HN.out _).mono ?_
      rintro x w6 ⟨rfl, hb⟩
      go_simp
      refine Stepped.mk2 (fun j => if j = 3 then .bool true else if j = 0 then .int .i64 d else if j = 2 then .int .i64 note else X j) (fun j hj => ?_) rfl (hR.next hb)
      rw [if_neg hj]
      by_cases e0 : j = 0
      · subst e0; exact x0.symm
      rw [if_neg e0]
      by_cases e2 : j = 2
      · subst e2; exact x2.symm
      rw [if_neg e2]
    | 4, hoi =>
      cases hoi
      have x3 : X 3 = .bool true := h ⟨3, .data⟩ (by simp) (by rfl)
      clear h
      refine wpOp_do rfl rfl ?_
      simp only [x3]
      go_simp
      refine Stepped.mk2 (fun j => if j = 4 then .bool true else if j = 3 then .bool true else X j) (fun j hj => ?_) rfl hR
      rw [if_neg hj]
      by_cases e3 : j = 3
      · subst e3; exact x3.symm
      rw [if_neg e3]
    | 5, hoi =>
      cases hoi
      have x4 : X 4 = .bool true := h ⟨4, .guard⟩ (by simp) (by rfl)
      clear h
      refine wpOp_do rfl ?_ ?_
      · show Region.wanted _ (yielded _ _) = true
        simp only [x4]
        rfl
      simp only [x4]
      go_simp
      refine Stepped.mk2 (fun j => if j = 5 then .pointer (some ⟨g, 2, none⟩) else if j = 4 then .bool true else X j) (fun j hj => ?_) rfl hR
      rw [if_neg hj]
      by_cases e4 : j = 4
      · subst e4; exact x4.symm
      rw [if_neg e4]
    | 6, hoi =>
      cases hoi
      have x5 : X 5 = .pointer (some ⟨g, 2, none⟩) := h ⟨5, .data⟩ (by simp) (by rfl)
      have x4 : X 4 = .bool true := h ⟨4, .guard⟩ (by simp) (by rfl)
      clear h
      refine wpOp_do rfl ?_ ?_
      · show Region.wanted _ (yielded _ _) = true
        simp only [x4, x5]
        rfl
      simp only [x4, x5]
      obtain ⟨q0, q1, q2, q3, q4, q5, -⟩ := id hR
      go_simp
      refine Stepped.mk2 (fun j => if j = 6 then .int .i64 vc else if j = 4 then .bool true else if j = 5 then .pointer (some ⟨g, 2, none⟩) else X j) (fun j hj => ?_) rfl hR
      rw [if_neg hj]
      by_cases e4 : j = 4
      · subst e4; exact x4.symm
      rw [if_neg e4]
      by_cases e5 : j = 5
      · subst e5; exact x5.symm
      rw [if_neg e5]
    | 7, hoi =>
      cases hoi
      have x4 : X 4 = .bool true := h ⟨4, .guard⟩ (by simp) (by rfl)
      clear h
      refine wpOp_do rfl ?_ ?_
      · show Region.wanted _ (yielded _ _) = true
        simp only [x4]
        rfl
      simp only [x4]
      go_simp
      refine Stepped.mk2 (fun j => if j = 7 then .int .i64 d else if j = 4 then .bool true else X j) (fun j hj => ?_) rfl hR
      rw [if_neg hj]
      by_cases e4 : j = 4
      · subst e4; exact x4.symm
      rw [if_neg e4]
    | 8, hoi =>
      cases hoi
      have x7 : X 7 = .int .i64 d := h ⟨7, .data⟩ (by simp) (by rfl)
      have x4 : X 4 = .bool true := h ⟨4, .chain⟩ (by simp) (by rfl)
      clear h
      refine wpOp_do rfl ?_ ?_
      · show Region.wanted _ (yielded _ _) = true
        simp only [x4, x7]
        rfl
      simp only [x4, x7]
      go_simp
      go_at_call 26
      refine (rcommands_any d _).mono ?_
      rintro x w6 ⟨rfl, rfl⟩
      go_simp
      refine Stepped.mk2 (fun j => if j = 8 then .int .i64 (volC d) else if j = 4 then .bool true else if j = 7 then .int .i64 d else X j) (fun j hj => ?_) rfl hR
      rw [if_neg hj]
      by_cases e4 : j = 4
      · subst e4; exact x4.symm
      rw [if_neg e4]
      by_cases e7 : j = 7
      · subst e7; exact x7.symm
      rw [if_neg e7]
    | 9, hoi =>
      cases hoi
      have x6 : X 6 = .int .i64 vc := h ⟨6, .data⟩ (by simp) (by rfl)
      have x8 : X 8 = .int .i64 (volC d) := h ⟨8, .data⟩ (by simp) (by rfl)
      have x4 : X 4 = .bool true := h ⟨4, .guard⟩ (by simp) (by rfl)
      clear h
      refine wpOp_do rfl ?_ ?_
      · show Region.wanted _ (yielded _ _) = true
        simp only [x4, x6, x8]
        rfl
      simp only [x4, x6, x8]
      go_simp
      refine Stepped.mk2 (fun j => if j = 9 then .bool false else if j = 4 then .bool true else if j = 6 then .int .i64 vc else if j = 8 then .int .i64 (volC d) else X j) (fun j hj => ?_) rfl hR
      rw [if_neg hj]
      by_cases e4 : j = 4
      · subst e4; exact x4.symm
      rw [if_neg e4]
      by_cases e6 : j = 6
      · subst e6; exact x6.symm
      rw [if_neg e6]
      by_cases e8 : j = 8
      · subst e8; exact x8.symm
      rw [if_neg e8]
    | 10, hoi =>
      cases hoi
      have x4 : X 4 = .bool true := h ⟨4, .data⟩ (by simp) (by rfl)
      have x9 : X 9 = .bool false := h ⟨9, .data⟩ (by simp) (by rfl)
      clear h
      refine wpOp_do rfl rfl ?_
      simp only [x4, x9]
      go_simp
      refine Stepped.mk2 (fun j => if j = 10 then .bool false else if j = 4 then .bool true else if j = 9 then .bool false else X j) (fun j hj => ?_) rfl hR
      rw [if_neg hj]
      by_cases e4 : j = 4
      · subst e4; exact x4.symm
      rw [if_neg e4]
      by_cases e9 : j = 9
      · subst e9; exact x9.symm
      rw [if_neg e9]
    | 11, hoi =>
      cases hoi
      have x10 : X 10 = .bool false := h ⟨10, .data⟩ (by simp) (by rfl)
      have x8 : X 8 = .int .i64 (volC d) := h ⟨8, .chain⟩ (by simp) (by rfl)
      clear h
      refine wpOp_do rfl rfl ?_
      simp only [x8, x10]
      go_simp
      refine Stepped.mk2 (fun j => if j = 11 then .bool false else if j = 8 then .int .i64 (volC d) else if j = 10 then .bool false else X j) (fun j hj => ?_) rfl hR
      rw [if_neg hj]
      by_cases e8 : j = 8
      · subst e8; exact x8.symm
      rw [if_neg e8]
      by_cases e10 : j = 10
      · subst e10; exact x10.symm
      rw [if_neg e10]
    | 12, hoi =>
      cases hoi
      have x11 : X 11 = .bool false := h ⟨11, .guard⟩ (by simp) (by rfl)
      refine wpOp_skip rfl ?_ ⟨?_, hR⟩
      · show Region.wanted _ (yielded _ _) = false
        simp only [x11]
        rfl
      · rfl
    | 13, hoi =>
      cases hoi
      have x12 : X 12 = undef := h ⟨12, .data⟩ (by simp) (by rfl)
      have x11 : X 11 = .bool false := h ⟨11, .guard⟩ (by simp) (by rfl)
      refine wpOp_skip rfl ?_ ⟨?_, hR⟩
      · show Region.wanted _ (yielded _ _) = false
        simp only [x11, x12]
        rfl
      · rfl
    | 14, hoi =>
      cases hoi
      have x13 : X 13 = undef := h ⟨13, .data⟩ (by simp) (by rfl)
      have x11 : X 11 = .bool false := h ⟨11, .guard⟩ (by simp) (by rfl)
      refine wpOp_skip rfl ?_ ⟨?_, hR⟩
      · show Region.wanted _ (yielded _ _) = false
        simp only [x11, x13]
        rfl
      · rfl
    | 15, hoi =>
      cases hoi
      have x14 : X 14 = undef := h ⟨14, .data⟩ (by simp) (by rfl)
      have x11 : X 11 = .bool false := h ⟨11, .chain⟩ (by simp) (by rfl)
      refine wpOp_skip rfl ?_ ⟨?_, hR⟩
      · show Region.wanted _ (yielded _ _) = false
        simp only [x11, x14]
        rfl
      · rfl
    | 16, hoi =>
      cases hoi
      have x15 : X 15 = undef := h ⟨15, .guard⟩ (by simp) (by rfl)
      refine wpOp_skip rfl ?_ ⟨?_, hR⟩
      · show Region.wanted _ (yielded _ _) = false
        simp only [x15]
        rfl
      · rfl
    | 17, hoi =>
      cases hoi
      have x16 : X 16 = undef := h ⟨16, .data⟩ (by simp) (by rfl)
      have x15 : X 15 = undef := h ⟨15, .chain⟩ (by simp) (by rfl)
      refine wpOp_skip rfl ?_ ⟨?_, hR⟩
      · show Region.wanted _ (yielded _ _) = false
        simp only [x15, x16]
        rfl
      · rfl
    | 18, hoi =>
      cases hoi
      have x15 : X 15 = undef := h ⟨15, .guard⟩ (by simp) (by rfl)
      refine wpOp_skip rfl ?_ ⟨?_, hR⟩
      · show Region.wanted _ (yielded _ _) = false
        simp only [x15]
        rfl
      · rfl
    | 19, hoi =>
      cases hoi
      have x18 : X 18 = undef := h ⟨18, .data⟩ (by simp) (by rfl)
      have x15 : X 15 = undef := h ⟨15, .guard⟩ (by simp) (by rfl)
      refine wpOp_skip rfl ?_ ⟨?_, hR⟩
      · show Region.wanted _ (yielded _ _) = false
        simp only [x15, x18]
        rfl
      · rfl
    | 20, hoi =>
      cases hoi
      have x19 : X 19 = undef := h ⟨19, .data⟩ (by simp) (by rfl)
      have x17 : X 17 = undef := h ⟨17, .chain⟩ (by simp) (by rfl)
      have x15 : X 15 = undef := h ⟨15, .guard⟩ (by simp) (by rfl)
      refine wpOp_skip rfl ?_ ⟨?_, hR⟩
      · show Region.wanted _ (yielded _ _) = false
        simp only [x15, x17, x19]
        rfl
      · rfl
    | 21, hoi =>
      cases hoi
      have x17 : X 17 = undef := h ⟨17, .data⟩ (by simp) (by rfl)
      have x20 : X 20 = undef := h ⟨20, .data⟩ (by simp) (by rfl)
      have x15 : X 15 = undef := h ⟨15, .guard⟩ (by simp) (by rfl)
      refine wpOp_skip rfl ?_ ⟨?_, hR⟩
      · show Region.wanted _ (yielded _ _) = false
        simp only [x15, x17, x20]
        rfl
      · rfl
    | 22, hoi =>
      cases hoi
      have x15 : X 15 = undef := h ⟨15, .data⟩ (by simp) (by rfl)
      have x21 : X 21 = undef := h ⟨21, .data⟩ (by simp) (by rfl)
      have x11 : X 11 = .bool false := h ⟨11, .guard⟩ (by simp) (by rfl)
      refine wpOp_skip rfl ?_ ⟨?_, hR⟩
      · show Region.wanted _ (yielded _ _) = false
        simp only [x11, x15, x21]
        rfl
      · rfl
    | 23, hoi =>
      cases hoi
      have x11 : X 11 = .bool false := h ⟨11, .data⟩ (by simp) (by rfl)
      have x22 : X 22 = undef := h ⟨22, .data⟩ (by simp) (by rfl)
      clear h
      refine wpOp_do rfl rfl ?_
      simp only [x11, x22]
      go_simp
      refine Stepped.mk2 (fun j => if j = 23 then .bool false else if j = 11 then .bool false else if j = 22 then undef else X j) (fun j hj => ?_) rfl hR
      rw [if_neg hj]
      by_cases e11 : j = 11
      · subst e11; exact x11.symm
      rw [if_neg e11]
      by_cases e22 : j = 22
      · subst e22; exact x22.symm
      rw [if_neg e22]
    | 24, hoi =>
      cases hoi
      have x23 : X 23 = .bool false := h ⟨23, .data⟩ (by simp) (by rfl)
      have x21 : X 21 = undef := h ⟨21, .chain⟩ (by simp) (by rfl)
      have x0 : X 0 = .int .i64 d := h ⟨0, .phase⟩ (by simp) (by rfl)
      have x1 : X 1 = .pointer (some ⟨g, 0, none⟩) := h ⟨1, .phase⟩ (by simp) (by rfl)
      have x2 : X 2 = .int .i64 note := h ⟨2, .phase⟩ (by simp) (by rfl)
      have x3 : X 3 = .bool true := h ⟨3, .phase⟩ (by simp) (by rfl)
      have x4 : X 4 = .bool true := h ⟨4, .phase⟩ (by simp) (by rfl)
      have x5 : X 5 = .pointer (some ⟨g, 2, none⟩) := h ⟨5, .phase⟩ (by simp) (by rfl)
      have x6 : X 6 = .int .i64 vc := h ⟨6, .phase⟩ (by simp) (by rfl)
      have x7 : X 7 = .int .i64 d := h ⟨7, .phase⟩ (by simp) (by rfl)
      have x8 : X 8 = .int .i64 (volC d) := h ⟨8, .phase⟩ (by simp) (by rfl)
      have x9 : X 9 = .bool false := h ⟨9, .phase⟩ (by simp) (by rfl)
      have x10 : X 10 = .bool false := h ⟨10, .phase⟩ (by simp) (by rfl)
      have x11 : X 11 = .bool false := h ⟨11, .phase⟩ (by simp) (by rfl)
      have x12 : X 12 = undef := h ⟨12, .phase⟩ (by simp) (by rfl)
      have x13 : X 13 = undef := h ⟨13, .phase⟩ (by simp) (by rfl)
      have x14 : X 14 = undef := h ⟨14, .phase⟩ (by simp) (by rfl)
      have x15 : X 15 = undef := h ⟨15, .phase⟩ (by simp) (by rfl)
      have x16 : X 16 = undef := h ⟨16, .phase⟩ (by simp) (by rfl)
      have x17 : X 17 = undef := h ⟨17, .phase⟩ (by simp) (by rfl)
      have x18 : X 18 = undef := h ⟨18, .phase⟩ (by simp) (by rfl)
      have x19 : X 19 = undef := h ⟨19, .phase⟩ (by simp) (by rfl)
      have x20 : X 20 = undef := h ⟨20, .phase⟩ (by simp) (by rfl)
      have x22 : X 22 = undef := h ⟨22, .phase⟩ (by simp) (by rfl)
      clear h
      refine wpOp_do rfl rfl ?_
      simp only [x0, x1, x2, x3, x4, x5, x6, x7, x8, x9, x10, x11, x12, x13, x14, x15, x16, x17, x18, x19, x20, x21, x22, x23]
      go_simp
      refine Stepped.mk2 (fun j => if j = 24 then .bool false else if j = 0 then .int .i64 d else if j = 1 then .pointer (some ⟨g, 0, none⟩) else if j = 2 then .int .i64 note else if j = 3 then .bool true else if j = 4 then .bool true else if j = 5 then .pointer (some ⟨g, 2, none⟩) else if j = 6 then .int .i64 vc else if j = 7 then .int .i64 d else if j = 8 then .int .i64 (volC d) else if j = 9 then .bool false else if j = 10 then .bool false else if j = 11 then .bool false else if j = 12 then undef else if j = 13 then undef else if j = 14 then undef else if j = 15 then undef else if j = 16 then undef else if j = 17 then undef else if j = 18 then undef else if j = 19 then undef else if j = 20 then undef else if j = 21 then undef else if j = 22 then undef else if j = 23 then .bool false else X j) (fun j hj => ?_) rfl hR
      rw [if_neg hj]
      by_cases e0 : j = 0
      · subst e0; exact x0.symm
      rw [if_neg e0]
      by_cases e1 : j = 1
      · subst e1; exact x1.symm
      rw [if_neg e1]
      by_cases e2 : j = 2
      · subst e2; exact x2.symm
      rw [if_neg e2]
      by_cases e3 : j = 3
      · subst e3; exact x3.symm
      rw [if_neg e3]
      by_cases e4 : j = 4
      · subst e4; exact x4.symm
      rw [if_neg e4]
      by_cases e5 : j = 5
      · subst e5; exact x5.symm
      rw [if_neg e5]
      by_cases e6 : j = 6
      · subst e6; exact x6.symm
      rw [if_neg e6]
      by_cases e7 : j = 7
      · subst e7; exact x7.symm
      rw [if_neg e7]
      by_cases e8 : j = 8
      · subst e8; exact x8.symm
      rw [if_neg e8]
      by_cases e9 : j = 9
      · subst e9; exact x9.symm
      rw [if_neg e9]
      by_cases e10 : j = 10
      · subst e10; exact x10.symm
      rw [if_neg e10]
      by_cases e11 : j = 11
      · subst e11; exact x11.symm
      rw [if_neg e11]
      by_cases e12 : j = 12
      · subst e12; exact x12.symm
      rw [if_neg e12]
      by_cases e13 : j = 13
      · subst e13; exact x13.symm
      rw [if_neg e13]
      by_cases e14 : j = 14
      · subst e14; exact x14.symm
      rw [if_neg e14]
      by_cases e15 : j = 15
      · subst e15; exact x15.symm
      rw [if_neg e15]
      by_cases e16 : j = 16
      · subst e16; exact x16.symm
      rw [if_neg e16]
      by_cases e17 : j = 17
      · subst e17; exact x17.symm
      rw [if_neg e17]
      by_cases e18 : j = 18
      · subst e18; exact x18.symm
      rw [if_neg e18]
      by_cases e19 : j = 19
      · subst e19; exact x19.symm
      rw [if_neg e19]
      by_cases e20 : j = 20
      · subst e20; exact x20.symm
      rw [if_neg e20]
      by_cases e21 : j = 21
      · subst e21; exact x21.symm
      rw [if_neg e21]
      by_cases e22 : j = 22
      · subst e22; exact x22.symm
      rw [if_neg e22]
      by_cases e23 : j = 23
      · subst e23; exact x23.symm
      rw [if_neg e23]
    | i + 25, hoi => simp at hoi
  case hend =>
    intro w5 hR
    dsimp only
    go_wp2
    go_ret
    exact ⟨rfl, hR.bel HB⟩
set_option maxHeartbeats 4000000 in
set_option maxRecDepth 100000 in
theorem rvalid_E (d note inst vc va e p : Int) (d1 : 1 ≤ d) (d2 : d ≤ 6) (hc : cellB note inst vc va e p = true) (hn : noteD d note = true) (hv : vc ≤ volC d) (he : e = 0) (w : World) : Calls Tryz.prog 8 #[.int .i64 d, .agg #[.int .i64 note, .int .i64 inst, .int .i64 vc, .int .i64 va, .int .i64 e, .int .i64 p]] w fun x w' => x = .returned (.bool true) ∧ BelowW w w' := by
  have HE := hid (qe_ok ⟨d1, d2⟩)
  have HC := hid hc
  have HN := hid hn
  have hv1 := decide_eq_true hv
  have te : (e == 0) = true := beq_true he
  clear hv he
  clear d1 d2 hc hn
  have HS := hid (Six.box note inst vc va e p w)
  have HB : BelowW w (w.alloc (.cells #[.int .i64 note, .int .i64 inst, .int .i64 vc, .int .i64 va, .int .i64 e, .int .i64 p] 23)) := below1 w _
  have HQ := hid (refquirks_any d (w.alloc (.cells #[.int .i64 note, .int .i64 inst, .int .i64 vc, .int .i64 va, .int .i64 e, .int .i64 p] 23)))
  go_enter Tryz.func8, Tryz.ntmps8
  go_upto_region 1 with (fail)
  generalize w.alloc (.cells #[.int .i64 note, .int .i64 inst, .int .i64 vc, .int .i64 va, .int .i64 e, .int .i64 p] 23) = w0 at *
  generalize w.heap.size = g at *
  go_wp2_with fail
  go_at_call 15
  refine HQ.out.mono ?_
  rintro x w2 ⟨rfl, hb⟩
  rw [HE.out]
  replace HS := hid (HS.out.next hb)
  replace HB := belowW_step HB hb
  clear hb HQ
  go_upto_region 2 with (refine wpList_store_new rfl 39 _ _ rfl (qz 0) (qz d) rfl rfl (infoq d) (by rw [qz_size, qz_size]) (qz_one d) ?_)
  replace HS := hid (HS.out.next (below1 w2 (.cells (qz d) 39)))
  replace HB := belowW_step HB (below1 w2 (.cells (qz d) 39))
  generalize w2.alloc (.cells (qz d) 39) = w3 at *
  generalize w2.heap.size = g5 at *
  obtain ⟨q0, q1, q2, q3, q4, q5, -⟩ := HS.out
  go_wp2_with fail
  go_at_call 24
  refine (vcell24_is note inst vc va e p _ HC.out _).mono ?_
  rintro x w4 ⟨rfl, hb⟩
  replace HS := hid (HS.out.next hb)
  replace HB := belowW_step HB hb
  clear hb q0 q1 q2 q3 q4 q5
  go_upto_region 4 with (fail)
  have HS4 : Hid (Six g note inst vc va e p w4 w4) := hid (HS.out.self)
  obtain ⟨w1, hw1⟩ : ∃ z, z = w4 := ⟨_, rfl⟩
  rw [← hw1] at HS4 HB ⊢
  clear HS hw1
  refine wp_region_pure (n := 25) (fun X => #[.int .i64 d, .agg #[.int .i64 note, .int .i64 inst, .int .i64 vc, .int .i64 va, .int .i64 e, .int .i64 p], undef, .pointer (some ⟨g, 0, none⟩), X 24, .pointer (some ⟨g5, 0, none⟩), .int .i64 0, .tuple #[.agg (qz d), .int .i64 0], .int .i64 d, .tuple #[.agg (qz d), .int .i64 0], .agg (qz d), .int .i64 0, .int .i64 0, .bool false, .bool false, .agg #[.int .i64 note, .int .i64 inst, .int .i64 vc, .int .i64 va, .int .i64 e, .int .i64 p], .bool true, .bool false, .bool false, X 0, X 1, X 2, X 3, X 4, X 5, X 6, X 7, X 8, X 9, X 10, X 11, X 12, X 13, X 14, X 15, X 16, X 17, X 18, X 19, X 20, X 21, X 22, X 23]) (fun j => match j with | 0 => .int .i64 d | 1 => .pointer (some ⟨g, 0, none⟩) | 2 => .int .i64 note | 3 => .bool true | 4 => .bool true | 5 => .pointer (some ⟨g, 2, none⟩) | 6 => .int .i64 vc | 7 => .int .i64 d | 8 => .int .i64 (volC d) | 9 => .bool true | 10 => .bool true | 11 => .bool true | 12 => .pointer (some ⟨g, 4, none⟩) | 13 => .int .i64 e | 14 => .bool true | 15 => .bool true | 16 => undef | 17 => undef | 18 => undef | 19 => undef | 20 => undef | 21 => undef | 22 => .bool true | 23 => .bool true | 24 => .bool true | _ => undef) (Six g note inst vc va e p w1) (fun j => match j with | 24 => .bool false | _ => undef) (by kernel_rfl) rfl (by kernel_rfl) rfl ?hR0 ?hfr ?hstep ?hend
  case hR0 => exact HS4.out.drew
  case hfr =>
    intro X h
    simp only [h 0 (by decide), h 1 (by decide), h 2 (by decide), h 3 (by decide), h 4 (by decide), h 5 (by decide), h 6 (by decide), h 7 (by decide), h 8 (by decide), h 9 (by decide), h 10 (by decide), h 11 (by decide), h 12 (by decide), h 13 (by decide), h 14 (by decide), h 15 (by decide), h 16 (by decide), h 17 (by decide), h 18 (by decide), h 19 (by decide), h 20 (by decide), h 21 (by decide), h 22 (by decide), h 23 (by decide), h 24 (by decide)]
  case hstep =>
    intro i oi hoi X w5 h hR
    match i, hoi with
    | 0, hoi =>
      cases hoi
      clear h
      refine wpOp_do rfl rfl ?_
      go_simp
      exact ⟨rfl, hR⟩
    | 1, hoi =>
      cases hoi
      clear h
      refine wpOp_do rfl rfl ?_
      go_simp
      exact ⟨rfl, hR⟩
    | 2, hoi =>
      cases hoi
      have x1 : X 1 = .pointer (some ⟨g, 0, none⟩) := h ⟨1, .data⟩ (by simp) (by rfl)
      clear h
      refine wpOp_do rfl rfl ?_
      simp only [x1]
      obtain ⟨q0, q1, q2, q3, q4, q5, -⟩ := id hR
      go_simp
      refine Stepped.mk2 (fun j => if j = 2 then .int .i64 note else if j = 1 then .pointer (some ⟨g, 0, none⟩) else X j) (fun j hj => ?_) rfl hR
      rw [if_neg hj]
      by_cases e1 : j = 1
      · subst e1; exact x1.symm
      rw [if_neg e1]
    | 3, hoi =>
      cases hoi
      have x0 : X 0 = .int .i64 d := h ⟨0, .data⟩ (by simp) (by rfl)
      have x2 : X 2 = .int .i64 note := h ⟨2, .data⟩ (by simp) (by rfl)
      clear h
      refine wpOp_do rfl rfl ?_
      simp only [x0, x2]
      go_simp
      go_at_call 25
      refine (rnoted_is d note _ HN.out _).mono ?_
      rintro x w6 ⟨rfl, hb⟩
      go_simp
      refine Stepped.mk2 (fun j => if j = 3 then .bool true else if j = 0 then .int .i64 d else if j = 2 then .int .i64 note else X j) (fun j hj => ?_) rfl (hR.next hb)
      rw [if_neg hj]
      by_cases e0 : j = 0
      · subst e0; exact x0.symm
      rw [if_neg e0]
      by_cases e2 : j = 2
      · subst e2; exact x2.symm
      rw [if_neg e2]
    | 4, hoi =>
      cases hoi
      have x3 : X 3 = .bool true := h ⟨3, .data⟩ (by simp) (by rfl)
      clear h
      refine wpOp_do rfl rfl ?_
      simp only [x3]
      go_simp
      refine Stepped.mk2 (fun j => if j = 4 then .bool true else if j = 3 then .bool true else X j) (fun j hj => ?_) rfl hR
      rw [if_neg hj]
      by_cases e3 : j = 3
      · subst e3; exact x3.symm
      rw [if_neg e3]
    | 5, hoi =>
      cases hoi
      have x4 : X 4 = .bool true := h ⟨4, .guard⟩ (by simp) (by rfl)
      clear h
      refine wpOp_do rfl ?_ ?_
      · show Region.wanted _ (yielded _ _) = true
        simp only [x4]
        rfl
      simp only [x4]
      go_simp
      refine Stepped.mk2 (fun j => if j = 5 then .pointer (some ⟨g, 2, none⟩) else if j = 4 then .bool true else X j) (fun j hj => ?_) rfl hR
      rw [if_neg hj]
      by_cases e4 : j = 4
      · subst e4; exact x4.symm
      rw [if_neg e4]
    | 6, hoi =>
      cases hoi
      have x5 : X 5 = .pointer (some ⟨g, 2, none⟩) := h ⟨5, .data⟩ (by simp) (by rfl)
      have x4 : X 4 = .bool true := h ⟨4, .guard⟩ (by simp) (by rfl)
      clear h
      refine wpOp_do rfl ?_ ?_
      · show Region.wanted _ (yielded _ _) = true
        simp only [x4, x5]
        rfl
      simp only [x4, x5]
      obtain ⟨q0, q1, q2, q3, q4, q5, -⟩ := id hR
      go_simp
      refine Stepped.mk2 (fun j => if j = 6 then .int .i64 vc else if j = 4 then .bool true else if j = 5 then .pointer (some ⟨g, 2, none⟩) else X j) (fun j hj => ?_) rfl hR
      rw [if_neg hj]
      by_cases e4 : j = 4
      · subst e4; exact x4.symm
      rw [if_neg e4]
      by_cases e5 : j = 5
      · subst e5; exact x5.symm
      rw [if_neg e5]
    | 7, hoi =>
      cases hoi
      have x4 : X 4 = .bool true := h ⟨4, .guard⟩ (by simp) (by rfl)
      clear h
      refine wpOp_do rfl ?_ ?_
      · show Region.wanted _ (yielded _ _) = true
        simp only [x4]
        rfl
      simp only [x4]
      go_simp
      refine Stepped.mk2 (fun j => if j = 7 then .int .i64 d else if j = 4 then .bool true else X j) (fun j hj => ?_) rfl hR
      rw [if_neg hj]
      by_cases e4 : j = 4
      · subst e4; exact x4.symm
      rw [if_neg e4]
    | 8, hoi =>
      cases hoi
      have x7 : X 7 = .int .i64 d := h ⟨7, .data⟩ (by simp) (by rfl)
      have x4 : X 4 = .bool true := h ⟨4, .chain⟩ (by simp) (by rfl)
      clear h
      refine wpOp_do rfl ?_ ?_
      · show Region.wanted _ (yielded _ _) = true
        simp only [x4, x7]
        rfl
      simp only [x4, x7]
      go_simp
      go_at_call 26
      refine (rcommands_any d _).mono ?_
      rintro x w6 ⟨rfl, rfl⟩
      go_simp
      refine Stepped.mk2 (fun j => if j = 8 then .int .i64 (volC d) else if j = 4 then .bool true else if j = 7 then .int .i64 d else X j) (fun j hj => ?_) rfl hR
      rw [if_neg hj]
      by_cases e4 : j = 4
      · subst e4; exact x4.symm
      rw [if_neg e4]
      by_cases e7 : j = 7
      · subst e7; exact x7.symm
      rw [if_neg e7]
    | 9, hoi =>
      cases hoi
      have x6 : X 6 = .int .i64 vc := h ⟨6, .data⟩ (by simp) (by rfl)
      have x8 : X 8 = .int .i64 (volC d) := h ⟨8, .data⟩ (by simp) (by rfl)
      have x4 : X 4 = .bool true := h ⟨4, .guard⟩ (by simp) (by rfl)
      clear h
      refine wpOp_do rfl ?_ ?_
      · show Region.wanted _ (yielded _ _) = true
        simp only [x4, x6, x8]
        rfl
      simp only [x4, x6, x8]
      go_simp
      refine Stepped.mk2 (fun j => if j = 9 then .bool true else if j = 4 then .bool true else if j = 6 then .int .i64 vc else if j = 8 then .int .i64 (volC d) else X j) (fun j hj => ?_) rfl hR
      rw [if_neg hj]
      by_cases e4 : j = 4
      · subst e4; exact x4.symm
      rw [if_neg e4]
      by_cases e6 : j = 6
      · subst e6; exact x6.symm
      rw [if_neg e6]
      by_cases e8 : j = 8
      · subst e8; exact x8.symm
      rw [if_neg e8]
    | 10, hoi =>
      cases hoi
      have x4 : X 4 = .bool true := h ⟨4, .data⟩ (by simp) (by rfl)
      have x9 : X 9 = .bool true := h ⟨9, .data⟩ (by simp) (by rfl)
      clear h
      refine wpOp_do rfl rfl ?_
      simp only [x4, x9]
      go_simp
      refine Stepped.mk2 (fun j => if j = 10 then .bool true else if j = 4 then .bool true else if j = 9 then .bool true else X j) (fun j hj => ?_) rfl hR
      rw [if_neg hj]
      by_cases e4 : j = 4
      · subst e4; exact x4.symm
      rw [if_neg e4]
      by_cases e9 : j = 9
      · subst e9; exact x9.symm
      rw [if_neg e9]
    | 11, hoi =>
      cases hoi
      have x10 : X 10 = .bool true := h ⟨10, .data⟩ (by simp) (by rfl)
      have x8 : X 8 = .int .i64 (volC d) := h ⟨8, .chain⟩ (by simp) (by rfl)
      clear h
      refine wpOp_do rfl rfl ?_
      simp only [x8, x10]
      go_simp
      refine Stepped.mk2 (fun j => if j = 11 then .bool true else if j = 8 then .int .i64 (volC d) else if j = 10 then .bool true else X j) (fun j hj => ?_) rfl hR
      rw [if_neg hj]
      by_cases e8 : j = 8
      · subst e8; exact x8.symm
      rw [if_neg e8]
      by_cases e10 : j = 10
      · subst e10; exact x10.symm
      rw [if_neg e10]
    | 12, hoi =>
      cases hoi
      have x11 : X 11 = .bool true := h ⟨11, .guard⟩ (by simp) (by rfl)
      clear h
      refine wpOp_do rfl ?_ ?_
      · show Region.wanted _ (yielded _ _) = true
        simp only [x11]
        rfl
      simp only [x11]
      go_simp
      refine Stepped.mk2 (fun j => if j = 12 then .pointer (some ⟨g, 4, none⟩) else if j = 11 then .bool true else X j) (fun j hj => ?_) rfl hR
      rw [if_neg hj]
      by_cases e11 : j = 11
      · subst e11; exact x11.symm
      rw [if_neg e11]
    | 13, hoi =>
      cases hoi
      have x12 : X 12 = .pointer (some ⟨g, 4, none⟩) := h ⟨12, .data⟩ (by simp) (by rfl)
      have x11 : X 11 = .bool true := h ⟨11, .guard⟩ (by simp) (by rfl)
      clear h
      refine wpOp_do rfl ?_ ?_
      · show Region.wanted _ (yielded _ _) = true
        simp only [x11, x12]
        rfl
      simp only [x11, x12]
      obtain ⟨q0, q1, q2, q3, q4, q5, -⟩ := id hR
      go_simp
      refine Stepped.mk2 (fun j => if j = 13 then .int .i64 e else if j = 11 then .bool true else if j = 12 then .pointer (some ⟨g, 4, none⟩) else X j) (fun j hj => ?_) rfl hR
      rw [if_neg hj]
      by_cases e11 : j = 11
      · subst e11; exact x11.symm
      rw [if_neg e11]
      by_cases e12 : j = 12
      · subst e12; exact x12.symm
      rw [if_neg e12]
    | 14, hoi =>
      cases hoi
      have x13 : X 13 = .int .i64 e := h ⟨13, .data⟩ (by simp) (by rfl)
      have x11 : X 11 = .bool true := h ⟨11, .guard⟩ (by simp) (by rfl)
      clear h
      refine wpOp_do rfl ?_ ?_
      · show Region.wanted _ (yielded _ _) = true
        simp only [x11, x13]
        rfl
      simp only [x11, x13]
      go_simp
      refine Stepped.mk2 (fun j => if j = 14 then .bool true else if j = 11 then .bool true else if j = 13 then .int .i64 e else X j) (fun j hj => ?_) rfl hR
      rw [if_neg hj]
      by_cases e11 : j = 11
      · subst e11; exact x11.symm
      rw [if_neg e11]
      by_cases e13 : j = 13
      · subst e13; exact x13.symm
      rw [if_neg e13]
    | 15, hoi =>
      cases hoi
      have x14 : X 14 = .bool true := h ⟨14, .data⟩ (by simp) (by rfl)
      have x11 : X 11 = .bool true := h ⟨11, .chain⟩ (by simp) (by rfl)
      clear h
      refine wpOp_do rfl ?_ ?_
      · show Region.wanted _ (yielded _ _) = true
        simp only [x11, x14]
        rfl
      simp only [x11, x14]
      go_simp
      refine Stepped.mk2 (fun j => if j = 15 then .bool true else if j = 11 then .bool true else if j = 14 then .bool true else X j) (fun j hj => ?_) rfl hR
      rw [if_neg hj]
      by_cases e11 : j = 11
      · subst e11; exact x11.symm
      rw [if_neg e11]
      by_cases e14 : j = 14
      · subst e14; exact x14.symm
      rw [if_neg e14]
    | 16, hoi =>
      cases hoi
      have x15 : X 15 = .bool true := h ⟨15, .guard⟩ (by simp) (by rfl)
      refine wpOp_skip rfl ?_ ⟨?_, hR⟩
      · show Region.wanted _ (yielded _ _) = false
        simp only [x15]
        rfl
      · rfl
    | 17, hoi =>
      cases hoi
      have x16 : X 16 = undef := h ⟨16, .data⟩ (by simp) (by rfl)
      have x15 : X 15 = .bool true := h ⟨15, .chain⟩ (by simp) (by rfl)
      refine wpOp_skip rfl ?_ ⟨?_, hR⟩
      · show Region.wanted _ (yielded _ _) = false
        simp only [x15, x16]
        rfl
      · rfl
    | 18, hoi =>
      cases hoi
      have x15 : X 15 = .bool true := h ⟨15, .guard⟩ (by simp) (by rfl)
      refine wpOp_skip rfl ?_ ⟨?_, hR⟩
      · show Region.wanted _ (yielded _ _) = false
        simp only [x15]
        rfl
      · rfl
    | 19, hoi =>
      cases hoi
      have x18 : X 18 = undef := h ⟨18, .data⟩ (by simp) (by rfl)
      have x15 : X 15 = .bool true := h ⟨15, .guard⟩ (by simp) (by rfl)
      refine wpOp_skip rfl ?_ ⟨?_, hR⟩
      · show Region.wanted _ (yielded _ _) = false
        simp only [x15, x18]
        rfl
      · rfl
    | 20, hoi =>
      cases hoi
      have x19 : X 19 = undef := h ⟨19, .data⟩ (by simp) (by rfl)
      have x17 : X 17 = undef := h ⟨17, .chain⟩ (by simp) (by rfl)
      have x15 : X 15 = .bool true := h ⟨15, .guard⟩ (by simp) (by rfl)
      refine wpOp_skip rfl ?_ ⟨?_, hR⟩
      · show Region.wanted _ (yielded _ _) = false
        simp only [x15, x17, x19]
        rfl
      · rfl
    | 21, hoi =>
      cases hoi
      have x17 : X 17 = undef := h ⟨17, .data⟩ (by simp) (by rfl)
      have x20 : X 20 = undef := h ⟨20, .data⟩ (by simp) (by rfl)
      have x15 : X 15 = .bool true := h ⟨15, .guard⟩ (by simp) (by rfl)
      refine wpOp_skip rfl ?_ ⟨?_, hR⟩
      · show Region.wanted _ (yielded _ _) = false
        simp only [x15, x17, x20]
        rfl
      · rfl
    | 22, hoi =>
      cases hoi
      have x15 : X 15 = .bool true := h ⟨15, .data⟩ (by simp) (by rfl)
      have x21 : X 21 = undef := h ⟨21, .data⟩ (by simp) (by rfl)
      have x11 : X 11 = .bool true := h ⟨11, .guard⟩ (by simp) (by rfl)
      clear h
      refine wpOp_do rfl ?_ ?_
      · show Region.wanted _ (yielded _ _) = true
        simp only [x11, x15, x21]
        rfl
      simp only [x11, x15, x21]
      go_simp
      refine Stepped.mk2 (fun j => if j = 22 then .bool true else if j = 11 then .bool true else if j = 15 then .bool true else if j = 21 then undef else X j) (fun j hj => ?_) rfl hR
      rw [if_neg hj]
      by_cases e11 : j = 11
      · subst e11; exact x11.symm
      rw [if_neg e11]
      by_cases e15 : j = 15
      · subst e15; exact x15.symm
      rw [if_neg e15]
      by_cases e21 : j = 21
      · subst e21; exact x21.symm
      rw [if_neg e21]
    | 23, hoi =>
      cases hoi
      have x11 : X 11 = .bool true := h ⟨11, .data⟩ (by simp) (by rfl)
      have x22 : X 22 = .bool true := h ⟨22, .data⟩ (by simp) (by rfl)
      clear h
      refine wpOp_do rfl rfl ?_
      simp only [x11, x22]
      go_simp
      refine Stepped.mk2 (fun j => if j = 23 then .bool true else if j = 11 then .bool true else if j = 22 then .bool true else X j) (fun j hj => ?_) rfl hR
      rw [if_neg hj]
      by_cases e11 : j = 11
      · subst e11; exact x11.symm
      rw [if_neg e11]
      by_cases e22 : j = 22
      · subst e22; exact x22.symm
      rw [if_neg e22]
    | 24, hoi =>
      cases hoi
      have x23 : X 23 = .bool true := h ⟨23, .data⟩ (by simp) (by rfl)
      have x21 : X 21 = undef := h ⟨21, .chain⟩ (by simp) (by rfl)
      have x0 : X 0 = .int .i64 d := h ⟨0, .phase⟩ (by simp) (by rfl)
      have x1 : X 1 = .pointer (some ⟨g, 0, none⟩) := h ⟨1, .phase⟩ (by simp) (by rfl)
      have x2 : X 2 = .int .i64 note := h ⟨2, .phase⟩ (by simp) (by rfl)
      have x3 : X 3 = .bool true := h ⟨3, .phase⟩ (by simp) (by rfl)
      have x4 : X 4 = .bool true := h ⟨4, .phase⟩ (by simp) (by rfl)
      have x5 : X 5 = .pointer (some ⟨g, 2, none⟩) := h ⟨5, .phase⟩ (by simp) (by rfl)
      have x6 : X 6 = .int .i64 vc := h ⟨6, .phase⟩ (by simp) (by rfl)
      have x7 : X 7 = .int .i64 d := h ⟨7, .phase⟩ (by simp) (by rfl)
      have x8 : X 8 = .int .i64 (volC d) := h ⟨8, .phase⟩ (by simp) (by rfl)
      have x9 : X 9 = .bool true := h ⟨9, .phase⟩ (by simp) (by rfl)
      have x10 : X 10 = .bool true := h ⟨10, .phase⟩ (by simp) (by rfl)
      have x11 : X 11 = .bool true := h ⟨11, .phase⟩ (by simp) (by rfl)
      have x12 : X 12 = .pointer (some ⟨g, 4, none⟩) := h ⟨12, .phase⟩ (by simp) (by rfl)
      have x13 : X 13 = .int .i64 e := h ⟨13, .phase⟩ (by simp) (by rfl)
      have x14 : X 14 = .bool true := h ⟨14, .phase⟩ (by simp) (by rfl)
      have x15 : X 15 = .bool true := h ⟨15, .phase⟩ (by simp) (by rfl)
      have x16 : X 16 = undef := h ⟨16, .phase⟩ (by simp) (by rfl)
      have x17 : X 17 = undef := h ⟨17, .phase⟩ (by simp) (by rfl)
      have x18 : X 18 = undef := h ⟨18, .phase⟩ (by simp) (by rfl)
      have x19 : X 19 = undef := h ⟨19, .phase⟩ (by simp) (by rfl)
      have x20 : X 20 = undef := h ⟨20, .phase⟩ (by simp) (by rfl)
      have x22 : X 22 = .bool true := h ⟨22, .phase⟩ (by simp) (by rfl)
      clear h
      refine wpOp_do rfl rfl ?_
      simp only [x0, x1, x2, x3, x4, x5, x6, x7, x8, x9, x10, x11, x12, x13, x14, x15, x16, x17, x18, x19, x20, x21, x22, x23]
      go_simp
      refine Stepped.mk2 (fun j => if j = 24 then .bool true else if j = 0 then .int .i64 d else if j = 1 then .pointer (some ⟨g, 0, none⟩) else if j = 2 then .int .i64 note else if j = 3 then .bool true else if j = 4 then .bool true else if j = 5 then .pointer (some ⟨g, 2, none⟩) else if j = 6 then .int .i64 vc else if j = 7 then .int .i64 d else if j = 8 then .int .i64 (volC d) else if j = 9 then .bool true else if j = 10 then .bool true else if j = 11 then .bool true else if j = 12 then .pointer (some ⟨g, 4, none⟩) else if j = 13 then .int .i64 e else if j = 14 then .bool true else if j = 15 then .bool true else if j = 16 then undef else if j = 17 then undef else if j = 18 then undef else if j = 19 then undef else if j = 20 then undef else if j = 21 then undef else if j = 22 then .bool true else if j = 23 then .bool true else X j) (fun j hj => ?_) rfl hR
      rw [if_neg hj]
      by_cases e0 : j = 0
      · subst e0; exact x0.symm
      rw [if_neg e0]
      by_cases e1 : j = 1
      · subst e1; exact x1.symm
      rw [if_neg e1]
      by_cases e2 : j = 2
      · subst e2; exact x2.symm
      rw [if_neg e2]
      by_cases e3 : j = 3
      · subst e3; exact x3.symm
      rw [if_neg e3]
      by_cases e4 : j = 4
      · subst e4; exact x4.symm
      rw [if_neg e4]
      by_cases e5 : j = 5
      · subst e5; exact x5.symm
      rw [if_neg e5]
      by_cases e6 : j = 6
      · subst e6; exact x6.symm
      rw [if_neg e6]
      by_cases e7 : j = 7
      · subst e7; exact x7.symm
      rw [if_neg e7]
      by_cases e8 : j = 8
      · subst e8; exact x8.symm
      rw [if_neg e8]
      by_cases e9 : j = 9
      · subst e9; exact x9.symm
      rw [if_neg e9]
      by_cases e10 : j = 10
      · subst e10; exact x10.symm
      rw [if_neg e10]
      by_cases e11 : j = 11
      · subst e11; exact x11.symm
      rw [if_neg e11]
      by_cases e12 : j = 12
      · subst e12; exact x12.symm
      rw [if_neg e12]
      by_cases e13 : j = 13
      · subst e13; exact x13.symm
      rw [if_neg e13]
      by_cases e14 : j = 14
      · subst e14; exact x14.symm
      rw [if_neg e14]
      by_cases e15 : j = 15
      · subst e15; exact x15.symm
      rw [if_neg e15]
      by_cases e16 : j = 16
      · subst e16; exact x16.symm
      rw [if_neg e16]
      by_cases e17 : j = 17
      · subst e17; exact x17.symm
      rw [if_neg e17]
      by_cases e18 : j = 18
      · subst e18; exact x18.symm
      rw [if_neg e18]
      by_cases e19 : j = 19
      · subst e19; exact x19.symm
      rw [if_neg e19]
      by_cases e20 : j = 20
      · subst e20; exact x20.symm
      rw [if_neg e20]
      by_cases e21 : j = 21
      · subst e21; exact x21.symm
      rw [if_neg e21]
      by_cases e22 : j = 22
      · subst e22; exact x22.symm
      rw [if_neg e22]
      by_cases e23 : j = 23
      · subst e23; exact x23.symm
      rw [if_neg e23]
    | i + 25, hoi => simp at hoi
  case hend =>
    intro w5 hR
    dsimp only
    go_wp2
    go_ret
    exact ⟨rfl, hR.bel HB⟩
set_option maxHeartbeats 4000000 in
set_option maxRecDepth 100000 in
theorem rvalid_Ft (d note inst vc va e p : Int) (d1 : 1 ≤ d) (d2 : d ≤ 6) (hc : cellB note inst vc va e p = true) (hn : noteD d note = true) (hv : vc ≤ volC d) (he : e ≠ 0) (hh : hasL (letS d).data.toList (letN e) = true) (w : World) : Calls Tryz.prog 8 #[.int .i64 d, .agg #[.int .i64 note, .int .i64 inst, .int .i64 vc, .int .i64 va, .int .i64 e, .int .i64 p]] w fun x w' => x = .returned (.bool true) ∧ BelowW w w' := by
  have HE := hid (qe_ok ⟨d1, d2⟩)
  have HC := hid hc
  have HN := hid hn
  have hv1 := decide_eq_true hv
  have te : (e == 0) = false := beq_false he
  have HI : Hid (1 ≤ e ∧ e ≤ 36) := hid (by have := (cellB_eff hc); omega)
  have HH := hid hh
  clear hv he hh
  clear d1 d2 hc hn
  have HS := hid (Six.box note inst vc va e p w)
  have HB : BelowW w (w.alloc (.cells #[.int .i64 note, .int .i64 inst, .int .i64 vc, .int .i64 va, .int .i64 e, .int .i64 p] 23)) := below1 w _
  have HQ := hid (refquirks_any d (w.alloc (.cells #[.int .i64 note, .int .i64 inst, .int .i64 vc, .int .i64 va, .int .i64 e, .int .i64 p] 23)))
  go_enter Tryz.func8, Tryz.ntmps8
  go_upto_region 1 with (fail)
  generalize w.alloc (.cells #[.int .i64 note, .int .i64 inst, .int .i64 vc, .int .i64 va, .int .i64 e, .int .i64 p] 23) = w0 at *
  generalize w.heap.size = g at *
  go_wp2_with fail
  go_at_call 15
  refine HQ.out.mono ?_
  rintro x w2 ⟨rfl, hb⟩
  rw [HE.out]
  replace HS := hid (HS.out.next hb)
  replace HB := belowW_step HB hb
  clear hb HQ
  go_upto_region 2 with (refine wpList_store_new rfl 39 _ _ rfl (qz 0) (qz d) rfl rfl (infoq d) (by rw [qz_size, qz_size]) (qz_one d) ?_)
  replace HS := hid (HS.out.next (below1 w2 (.cells (qz d) 39)))
  replace HB := belowW_step HB (below1 w2 (.cells (qz d) 39))
  generalize w2.alloc (.cells (qz d) 39) = w3 at *
  generalize w2.heap.size = g5 at *
  obtain ⟨q0, q1, q2, q3, q4, q5, -⟩ := HS.out
  go_wp2_with fail
  go_at_call 24
  refine (vcell24_is note inst vc va e p _ HC.out _).mono ?_
  rintro x w4 ⟨rfl, hb⟩
  replace HS := hid (HS.out.next hb)
  replace HB := belowW_step HB hb
  clear hb q0 q1 q2 q3 q4 q5
  go_upto_region 4 with (fail)
  have HS4 : Hid (Six g note inst vc va e p w4 w4) := hid (HS.out.self)
  obtain ⟨w1, hw1⟩ : ∃ z, z = w4 := ⟨_, rfl⟩
  rw [← hw1] at HS4 HB ⊢
  clear HS hw1
  refine wp_region_pure (n := 25) (fun X => #[.int .i64 d, .agg #[.int .i64 note, .int .i64 inst, .int .i64 vc, .int .i64 va, .int .i64 e, .int .i64 p], undef, .pointer (some ⟨g, 0, none⟩), X 24, .pointer (some ⟨g5, 0, none⟩), .int .i64 0, .tuple #[.agg (qz d), .int .i64 0], .int .i64 d, .tuple #[.agg (qz d), .int .i64 0], .agg (qz d), .int .i64 0, .int .i64 0, .bool false, .bool false, .agg #[.int .i64 note, .int .i64 inst, .int .i64 vc, .int .i64 va, .int .i64 e, .int .i64 p], .bool true, .bool false, .bool false, X 0, X 1, X 2, X 3, X 4, X 5, X 6, X 7, X 8, X 9, X 10, X 11, X 12, X 13, X 14, X 15, X 16, X 17, X 18, X 19, X 20, X 21, X 22, X 23]) (fun j => match j with | 0 => .int .i64 d | 1 => .pointer (some ⟨g, 0, none⟩) | 2 => .int .i64 note | 3 => .bool true | 4 => .bool true | 5 => .pointer (some ⟨g, 2, none⟩) | 6 => .int .i64 vc | 7 => .int .i64 d | 8 => .int .i64 (volC d) | 9 => .bool true | 10 => .bool true | 11 => .bool true | 12 => .pointer (some ⟨g, 4, none⟩) | 13 => .int .i64 e | 14 => .bool false | 15 => .bool false | 16 => .int .i64 d | 17 => .string (letS d) | 18 => .pointer (some ⟨g, 4, none⟩) | 19 => .int .i64 e | 20 => .int .u8 (letN e) | 21 => .bool true | 22 => .bool true | 23 => .bool true | 24 => .bool true | _ => undef) (Six g note inst vc va e p w1) (fun j => match j with | 24 => .bool false | _ => undef) (by kernel_rfl) rfl (by kernel_rfl) rfl ?hR0 ?hfr ?hstep ?hend
  case hR0 => exact HS4.out.drew
  case hfr =>
    intro X h
    simp only [h 0 (by decide), h 1 (by decide), h 2 (by decide), h 3 (by decide), h 4 (by decide), h 5 (by decide), h 6 (by decide), h 7 (by decide), h 8 (by decide), h 9 (by decide), h 10 (by decide), h 11 (by decide), h 12 (by decide), h 13 (by decide), h 14 (by decide), h 15 (by decide), h 16 (by decide), h 17 (by decide), h 18 (by decide), h 19 (by decide), h 20 (by decide), h 21 (by decide), h 22 (by decide), h 23 (by decide), h 24 (by decide)]
  case hstep =>
    intro i oi hoi X w5 h hR
    match i, hoi with
    | 0, hoi =>
      cases hoi
      clear h
      refine wpOp_do rfl rfl ?_
      go_simp
      exact ⟨rfl, hR⟩
    | 1, hoi =>
      cases hoi
      clear h
      refine wpOp_do rfl rfl ?_
      go_simp
      exact ⟨rfl, hR⟩
    | 2, hoi =>
      cases hoi
      have x1 : X 1 = .pointer (some ⟨g, 0, none⟩) := h ⟨1, .data⟩ (by simp) (by rfl)
      clear h
      refine wpOp_do rfl rfl ?_
      simp only [x1]
      obtain ⟨q0, q1, q2, q3, q4, q5, -⟩ := id hR
      go_simp
      refine Stepped.mk2 (fun j => if j = 2 then .int .i64 note else if j = 1 then .pointer (some ⟨g, 0, none⟩) else X j) (fun j hj => ?_) rfl hR
      rw [if_neg hj]
      by_cases e1 : j = 1
      · subst e1; exact x1.symm
      rw [if_neg e1]
    | 3, hoi =>
      cases hoi
      have x0 : X 0 = .int .i64 d := h ⟨0, .data⟩ (by simp) (by rfl)
      have x2 : X 2 = .int .i64 note := h ⟨2, .data⟩ (by simp) (by rfl)
      clear h
      refine wpOp_do rfl rfl ?_
      simp only [x0, x2]
      go_simp
      go_at_call 25
      refine (rnoted_is d note _ HN.out _).mono ?_
      rintro x w6 ⟨rfl, hb⟩
      go_simp
      refine Stepped.mk2 (fun j => if j = 3 then .bool true else if j = 0 then .int .i64 d else if j = 2 then .int .i64 note else X j) (fun j hj => ?_) rfl (hR.next hb)
      rw [if_neg hj]
      by_cases e0 : j = 0
      · subst e0; exact x0.symm
      rw [if_neg e0]
      by_cases e2 : j = 2
      · subst e2; exact x2.symm
      rw [if_neg e2]
    | 4, hoi =>
      cases hoi
      have x3 : X 3 = .bool true := h ⟨3, .data⟩ (by simp) (by rfl)
      clear h
      refine wpOp_do rfl rfl ?_
      simp only [x3]
      go_simp
      refine Stepped.mk2 (fun j => if j = 4 then .bool true else if j = 3 then .bool true else X j) (fun j hj => ?_) rfl hR
      rw [if_neg hj]
      by_cases e3 : j = 3
      · subst e3; exact x3.symm
      rw [if_neg e3]
    | 5, hoi =>
      cases hoi
      have x4 : X 4 = .bool true := h ⟨4, .guard⟩ (by simp) (by rfl)
      clear h
      refine wpOp_do rfl ?_ ?_
      · show Region.wanted _ (yielded _ _) = true
        simp only [x4]
        rfl
      simp only [x4]
      go_simp
      refine Stepped.mk2 (fun j => if j = 5 then .pointer (some ⟨g, 2, none⟩) else if j = 4 then .bool true else X j) (fun j hj => ?_) rfl hR
      rw [if_neg hj]
      by_cases e4 : j = 4
      · subst e4; exact x4.symm
      rw [if_neg e4]
    | 6, hoi =>
      cases hoi
      have x5 : X 5 = .pointer (some ⟨g, 2, none⟩) := h ⟨5, .data⟩ (by simp) (by rfl)
      have x4 : X 4 = .bool true := h ⟨4, .guard⟩ (by simp) (by rfl)
      clear h
      refine wpOp_do rfl ?_ ?_
      · show Region.wanted _ (yielded _ _) = true
        simp only [x4, x5]
        rfl
      simp only [x4, x5]
      obtain ⟨q0, q1, q2, q3, q4, q5, -⟩ := id hR
      go_simp
      refine Stepped.mk2 (fun j => if j = 6 then .int .i64 vc else if j = 4 then .bool true else if j = 5 then .pointer (some ⟨g, 2, none⟩) else X j) (fun j hj => ?_) rfl hR
      rw [if_neg hj]
      by_cases e4 : j = 4
      · subst e4; exact x4.symm
      rw [if_neg e4]
      by_cases e5 : j = 5
      · subst e5; exact x5.symm
      rw [if_neg e5]
    | 7, hoi =>
      cases hoi
      have x4 : X 4 = .bool true := h ⟨4, .guard⟩ (by simp) (by rfl)
      clear h
      refine wpOp_do rfl ?_ ?_
      · show Region.wanted _ (yielded _ _) = true
        simp only [x4]
        rfl
      simp only [x4]
      go_simp
      refine Stepped.mk2 (fun j => if j = 7 then .int .i64 d else if j = 4 then .bool true else X j) (fun j hj => ?_) rfl hR
      rw [if_neg hj]
      by_cases e4 : j = 4
      · subst e4; exact x4.symm
      rw [if_neg e4]
    | 8, hoi =>
      cases hoi
      have x7 : X 7 = .int .i64 d := h ⟨7, .data⟩ (by simp) (by rfl)
      have x4 : X 4 = .bool true := h ⟨4, .chain⟩ (by simp) (by rfl)
      clear h
      refine wpOp_do rfl ?_ ?_
      · show Region.wanted _ (yielded _ _) = true
        simp only [x4, x7]
        rfl
      simp only [x4, x7]
      go_simp
      go_at_call 26
      refine (rcommands_any d _).mono ?_
      rintro x w6 ⟨rfl, rfl⟩
      go_simp
      refine Stepped.mk2 (fun j => if j = 8 then .int .i64 (volC d) else if j = 4 then .bool true else if j = 7 then .int .i64 d else X j) (fun j hj => ?_) rfl hR
      rw [if_neg hj]
      by_cases e4 : j = 4
      · subst e4; exact x4.symm
      rw [if_neg e4]
      by_cases e7 : j = 7
      · subst e7; exact x7.symm
      rw [if_neg e7]
    | 9, hoi =>
      cases hoi
      have x6 : X 6 = .int .i64 vc := h ⟨6, .data⟩ (by simp) (by rfl)
      have x8 : X 8 = .int .i64 (volC d) := h ⟨8, .data⟩ (by simp) (by rfl)
      have x4 : X 4 = .bool true := h ⟨4, .guard⟩ (by simp) (by rfl)
      clear h
      refine wpOp_do rfl ?_ ?_
      · show Region.wanted _ (yielded _ _) = true
        simp only [x4, x6, x8]
        rfl
      simp only [x4, x6, x8]
      go_simp
      refine Stepped.mk2 (fun j => if j = 9 then .bool true else if j = 4 then .bool true else if j = 6 then .int .i64 vc else if j = 8 then .int .i64 (volC d) else X j) (fun j hj => ?_) rfl hR
      rw [if_neg hj]
      by_cases e4 : j = 4
      · subst e4; exact x4.symm
      rw [if_neg e4]
      by_cases e6 : j = 6
      · subst e6; exact x6.symm
      rw [if_neg e6]
      by_cases e8 : j = 8
      · subst e8; exact x8.symm
      rw [if_neg e8]
    | 10, hoi =>
      cases hoi
      have x4 : X 4 = .bool true := h ⟨4, .data⟩ (by simp) (by rfl)
      have x9 : X 9 = .bool true := h ⟨9, .data⟩ (by simp) (by rfl)
      clear h
      refine wpOp_do rfl rfl ?_
      simp only [x4, x9]
      go_simp
      refine Stepped.mk2 (fun j => if j = 10 then .bool true else if j = 4 then .bool true else if j = 9 then .bool true else X j) (fun j hj => ?_) rfl hR
      rw [if_neg hj]
      by_cases e4 : j = 4
      · subst e4; exact x4.symm
      rw [if_neg e4]
      by_cases e9 : j = 9
      · subst e9; exact x9.symm
      rw [if_neg e9]
    | 11, hoi =>
      cases hoi
      have x10 : X 10 = .bool true := h ⟨10, .data⟩ (by simp) (by rfl)
      have x8 : X 8 = .int .i64 (volC d) := h ⟨8, .chain⟩ (by simp) (by rfl)
      clear h
      refine wpOp_do rfl rfl ?_
      simp only [x8, x10]
      go_simp
      refine Stepped.mk2 (fun j => if j = 11 then .bool true else if j = 8 then .int .i64 (volC d) else if j = 10 then .bool true else X j) (fun j hj => ?_) rfl hR
      rw [if_neg hj]
      by_cases e8 : j = 8
      · subst e8; exact x8.symm
      rw [if_neg e8]
      by_cases e10 : j = 10
      · subst e10; exact x10.symm
      rw [if_neg e10]
    | 12, hoi =>
      cases hoi
      have x11 : X 11 = .bool true := h ⟨11, .guard⟩ (by simp) (by rfl)
      clear h
      refine wpOp_do rfl ?_ ?_
      · show Region.wanted _ (yielded _ _) = true
        simp only [x11]
        rfl
      simp only [x11]
      go_simp
      refine Stepped.mk2 (fun j => if j = 12 then .pointer (some ⟨g, 4, none⟩) else if j = 11 then .bool true else X j) (fun j hj => ?_) rfl hR
      rw [if_neg hj]
      by_cases e11 : j = 11
      · subst e11; exact x11.symm
      rw [if_neg e11]
    | 13, hoi =>
      cases hoi
      have x12 : X 12 = .pointer (some ⟨g, 4, none⟩) := h ⟨12, .data⟩ (by simp) (by rfl)
      have x11 : X 11 = .bool true := h ⟨11, .guard⟩ (by simp) (by rfl)
      clear h
      refine wpOp_do rfl ?_ ?_
      · show Region.wanted _ (yielded _ _) = true
        simp only [x11, x12]
        rfl
      simp only [x11, x12]
      obtain ⟨q0, q1, q2, q3, q4, q5, -⟩ := id hR
      go_simp
      refine Stepped.mk2 (fun j => if j = 13 then .int .i64 e else if j = 11 then .bool true else if j = 12 then .pointer (some ⟨g, 4, none⟩) else X j) (fun j hj => ?_) rfl hR
      rw [if_neg hj]
      by_cases e11 : j = 11
      · subst e11; exact x11.symm
      rw [if_neg e11]
      by_cases e12 : j = 12
      · subst e12; exact x12.symm
      rw [if_neg e12]
    | 14, hoi =>
      cases hoi
      have x13 : X 13 = .int .i64 e := h ⟨13, .data⟩ (by simp) (by rfl)
      have x11 : X 11 = .bool true := h ⟨11, .guard⟩ (by simp) (by rfl)
      clear h
      refine wpOp_do rfl ?_ ?_
      · show Region.wanted _ (yielded _ _) = true
        simp only [x11, x13]
        rfl
      simp only [x11, x13]
      go_simp
      refine Stepped.mk2 (fun j => if j = 14 then .bool false else if j = 11 then .bool true else if j = 13 then .int .i64 e else X j) (fun j hj => ?_) rfl hR
      rw [if_neg hj]
      by_cases e11 : j = 11
      · subst e11; exact x11.symm
      rw [if_neg e11]
      by_cases e13 : j = 13
      · subst e13; exact x13.symm
      rw [if_neg e13]
    | 15, hoi =>
      cases hoi
      have x14 : X 14 = .bool false := h ⟨14, .data⟩ (by simp) (by rfl)
      have x11 : X 11 = .bool true := h ⟨11, .chain⟩ (by simp) (by rfl)
      clear h
      refine wpOp_do rfl ?_ ?_
      · show Region.wanted _ (yielded _ _) = true
        simp only [x11, x14]
        rfl
      simp only [x11, x14]
      go_simp
      refine Stepped.mk2 (fun j => if j = 15 then .bool false else if j = 11 then .bool true else if j = 14 then .bool false else X j) (fun j hj => ?_) rfl hR
      rw [if_neg hj]
      by_cases e11 : j = 11
      · subst e11; exact x11.symm
      rw [if_neg e11]
      by_cases e14 : j = 14
      · subst e14; exact x14.symm
      rw [if_neg e14]
    | 16, hoi =>
      cases hoi
      have x15 : X 15 = .bool false := h ⟨15, .guard⟩ (by simp) (by rfl)
      clear h
      refine wpOp_do rfl ?_ ?_
      · show Region.wanted _ (yielded _ _) = true
        simp only [x15]
        rfl
      simp only [x15]
      go_simp
      refine Stepped.mk2 (fun j => if j = 16 then .int .i64 d else if j = 15 then .bool false else X j) (fun j hj => ?_) rfl hR
      rw [if_neg hj]
      by_cases e15 : j = 15
      · subst e15; exact x15.symm
      rw [if_neg e15]
    | 17, hoi =>
      cases hoi
      have x16 : X 16 = .int .i64 d := h ⟨16, .data⟩ (by simp) (by rfl)
      have x15 : X 15 = .bool false := h ⟨15, .chain⟩ (by simp) (by rfl)
      clear h
      refine wpOp_do rfl ?_ ?_
      · show Region.wanted _ (yielded _ _) = true
        simp only [x15, x16]
        rfl
      simp only [x15, x16]
      go_simp
      go_at_call 17
      refine (rletters_any d _).mono ?_
      rintro x w6 ⟨rfl, rfl⟩
      go_simp
      refine Stepped.mk2 (fun j => if j = 17 then .string (letS d) else if j = 15 then .bool false else if j = 16 then .int .i64 d else X j) (fun j hj => ?_) rfl hR
      rw [if_neg hj]
      by_cases e15 : j = 15
      · subst e15; exact x15.symm
      rw [if_neg e15]
      by_cases e16 : j = 16
      · subst e16; exact x16.symm
      rw [if_neg e16]
    | 18, hoi =>
      cases hoi
      have x15 : X 15 = .bool false := h ⟨15, .guard⟩ (by simp) (by rfl)
      clear h
      refine wpOp_do rfl ?_ ?_
      · show Region.wanted _ (yielded _ _) = true
        simp only [x15]
        rfl
      simp only [x15]
      go_simp
      refine Stepped.mk2 (fun j => if j = 18 then .pointer (some ⟨g, 4, none⟩) else if j = 15 then .bool false else X j) (fun j hj => ?_) rfl hR
      rw [if_neg hj]
      by_cases e15 : j = 15
      · subst e15; exact x15.symm
      rw [if_neg e15]
    | 19, hoi =>
      cases hoi
      have x18 : X 18 = .pointer (some ⟨g, 4, none⟩) := h ⟨18, .data⟩ (by simp) (by rfl)
      have x15 : X 15 = .bool false := h ⟨15, .guard⟩ (by simp) (by rfl)
      clear h
      refine wpOp_do rfl ?_ ?_
      · show Region.wanted _ (yielded _ _) = true
        simp only [x15, x18]
        rfl
      simp only [x15, x18]
      obtain ⟨q0, q1, q2, q3, q4, q5, -⟩ := id hR
      go_simp
      refine Stepped.mk2 (fun j => if j = 19 then .int .i64 e else if j = 15 then .bool false else if j = 18 then .pointer (some ⟨g, 4, none⟩) else X j) (fun j hj => ?_) rfl hR
      rw [if_neg hj]
      by_cases e15 : j = 15
      · subst e15; exact x15.symm
      rw [if_neg e15]
      by_cases e18 : j = 18
      · subst e18; exact x18.symm
      rw [if_neg e18]
    | 20, hoi =>
      cases hoi
      have x19 : X 19 = .int .i64 e := h ⟨19, .data⟩ (by simp) (by rfl)
      have x17 : X 17 = .string (letS d) := h ⟨17, .chain⟩ (by simp) (by rfl)
      have x15 : X 15 = .bool false := h ⟨15, .guard⟩ (by simp) (by rfl)
      clear h
      refine wpOp_do rfl ?_ ?_
      · show Region.wanted _ (yielded _ _) = true
        simp only [x15, x17, x19]
        rfl
      simp only [x15, x17, x19]
      go_simp
      go_at_call 28
      refine (rlet_any e HI.out.1 HI.out.2 _).mono ?_
      rintro x w6 ⟨rfl, rfl⟩
      go_simp
      refine Stepped.mk2 (fun j => if j = 20 then .int .u8 (letN e) else if j = 15 then .bool false else if j = 17 then .string (letS d) else if j = 19 then .int .i64 e else X j) (fun j hj => ?_) rfl hR
      rw [if_neg hj]
      by_cases e15 : j = 15
      · subst e15; exact x15.symm
      rw [if_neg e15]
      by_cases e17 : j = 17
      · subst e17; exact x17.symm
      rw [if_neg e17]
      by_cases e19 : j = 19
      · subst e19; exact x19.symm
      rw [if_neg e19]
    | 21, hoi =>
      cases hoi
      have x17 : X 17 = .string (letS d) := h ⟨17, .data⟩ (by simp) (by rfl)
      have x20 : X 20 = .int .u8 (letN e) := h ⟨20, .data⟩ (by simp) (by rfl)
      have x15 : X 15 = .bool false := h ⟨15, .guard⟩ (by simp) (by rfl)
      clear h
      refine wpOp_do rfl ?_ ?_
      · show Region.wanted _ (yielded _ _) = true
        simp only [x15, x17, x20]
        rfl
      simp only [x15, x17, x20]
      go_simp
      go_at_call 27
      refine (has_is (letS d) (letN e) _ HH.out (letS_len d) _).mono ?_
      rintro x w6 ⟨rfl, rfl⟩
      go_simp
      refine Stepped.mk2 (fun j => if j = 21 then .bool true else if j = 15 then .bool false else if j = 17 then .string (letS d) else if j = 20 then .int .u8 (letN e) else X j) (fun j hj => ?_) rfl hR
      rw [if_neg hj]
      by_cases e15 : j = 15
      · subst e15; exact x15.symm
      rw [if_neg e15]
      by_cases e17 : j = 17
      · subst e17; exact x17.symm
      rw [if_neg e17]
      by_cases e20 : j = 20
      · subst e20; exact x20.symm
      rw [if_neg e20]
    | 22, hoi =>
      cases hoi
      have x15 : X 15 = .bool false := h ⟨15, .data⟩ (by simp) (by rfl)
      have x21 : X 21 = .bool true := h ⟨21, .data⟩ (by simp) (by rfl)
      have x11 : X 11 = .bool true := h ⟨11, .guard⟩ (by simp) (by rfl)
      clear h
      refine wpOp_do rfl ?_ ?_
      · show Region.wanted _ (yielded _ _) = true
        simp only [x11, x15, x21]
        rfl
      simp only [x11, x15, x21]
      go_simp
      refine Stepped.mk2 (fun j => if j = 22 then .bool true else if j = 11 then .bool true else if j = 15 then .bool false else if j = 21 then .bool true else X j) (fun j hj => ?_) rfl hR
      rw [if_neg hj]
      by_cases e11 : j = 11
      · subst e11; exact x11.symm
      rw [if_neg e11]
      by_cases e15 : j = 15
      · subst e15; exact x15.symm
      rw [if_neg e15]
      by_cases e21 : j = 21
      · subst e21; exact x21.symm
      rw [if_neg e21]
    | 23, hoi =>
      cases hoi
      have x11 : X 11 = .bool true := h ⟨11, .data⟩ (by simp) (by rfl)
      have x22 : X 22 = .bool true := h ⟨22, .data⟩ (by simp) (by rfl)
      clear h
      refine wpOp_do rfl rfl ?_
      simp only [x11, x22]
      go_simp
      refine Stepped.mk2 (fun j => if j = 23 then .bool true else if j = 11 then .bool true else if j = 22 then .bool true else X j) (fun j hj => ?_) rfl hR
      rw [if_neg hj]
      by_cases e11 : j = 11
      · subst e11; exact x11.symm
      rw [if_neg e11]
      by_cases e22 : j = 22
      · subst e22; exact x22.symm
      rw [if_neg e22]
    | 24, hoi =>
      cases hoi
      have x23 : X 23 = .bool true := h ⟨23, .data⟩ (by simp) (by rfl)
      have x21 : X 21 = .bool true := h ⟨21, .chain⟩ (by simp) (by rfl)
      have x0 : X 0 = .int .i64 d := h ⟨0, .phase⟩ (by simp) (by rfl)
      have x1 : X 1 = .pointer (some ⟨g, 0, none⟩) := h ⟨1, .phase⟩ (by simp) (by rfl)
      have x2 : X 2 = .int .i64 note := h ⟨2, .phase⟩ (by simp) (by rfl)
      have x3 : X 3 = .bool true := h ⟨3, .phase⟩ (by simp) (by rfl)
      have x4 : X 4 = .bool true := h ⟨4, .phase⟩ (by simp) (by rfl)
      have x5 : X 5 = .pointer (some ⟨g, 2, none⟩) := h ⟨5, .phase⟩ (by simp) (by rfl)
      have x6 : X 6 = .int .i64 vc := h ⟨6, .phase⟩ (by simp) (by rfl)
      have x7 : X 7 = .int .i64 d := h ⟨7, .phase⟩ (by simp) (by rfl)
      have x8 : X 8 = .int .i64 (volC d) := h ⟨8, .phase⟩ (by simp) (by rfl)
      have x9 : X 9 = .bool true := h ⟨9, .phase⟩ (by simp) (by rfl)
      have x10 : X 10 = .bool true := h ⟨10, .phase⟩ (by simp) (by rfl)
      have x11 : X 11 = .bool true := h ⟨11, .phase⟩ (by simp) (by rfl)
      have x12 : X 12 = .pointer (some ⟨g, 4, none⟩) := h ⟨12, .phase⟩ (by simp) (by rfl)
      have x13 : X 13 = .int .i64 e := h ⟨13, .phase⟩ (by simp) (by rfl)
      have x14 : X 14 = .bool false := h ⟨14, .phase⟩ (by simp) (by rfl)
      have x15 : X 15 = .bool false := h ⟨15, .phase⟩ (by simp) (by rfl)
      have x16 : X 16 = .int .i64 d := h ⟨16, .phase⟩ (by simp) (by rfl)
      have x17 : X 17 = .string (letS d) := h ⟨17, .phase⟩ (by simp) (by rfl)
      have x18 : X 18 = .pointer (some ⟨g, 4, none⟩) := h ⟨18, .phase⟩ (by simp) (by rfl)
      have x19 : X 19 = .int .i64 e := h ⟨19, .phase⟩ (by simp) (by rfl)
      have x20 : X 20 = .int .u8 (letN e) := h ⟨20, .phase⟩ (by simp) (by rfl)
      have x22 : X 22 = .bool true := h ⟨22, .phase⟩ (by simp) (by rfl)
      clear h
      refine wpOp_do rfl rfl ?_
      simp only [x0, x1, x2, x3, x4, x5, x6, x7, x8, x9, x10, x11, x12, x13, x14, x15, x16, x17, x18, x19, x20, x21, x22, x23]
      go_simp
      refine Stepped.mk2 (fun j => if j = 24 then .bool true else if j = 0 then .int .i64 d else if j = 1 then .pointer (some ⟨g, 0, none⟩) else if j = 2 then .int .i64 note else if j = 3 then .bool true else if j = 4 then .bool true else if j = 5 then .pointer (some ⟨g, 2, none⟩) else if j = 6 then .int .i64 vc else if j = 7 then .int .i64 d else if j = 8 then .int .i64 (volC d) else if j = 9 then .bool true else if j = 10 then .bool true else if j = 11 then .bool true else if j = 12 then .pointer (some ⟨g, 4, none⟩) else if j = 13 then .int .i64 e else if j = 14 then .bool false else if j = 15 then .bool false else if j = 16 then .int .i64 d else if j = 17 then .string (letS d) else if j = 18 then .pointer (some ⟨g, 4, none⟩) else if j = 19 then .int .i64 e else if j = 20 then .int .u8 (letN e) else if j = 21 then .bool true else if j = 22 then .bool true else if j = 23 then .bool true else X j) (fun j hj => ?_) rfl hR
      rw [if_neg hj]
      by_cases e0 : j = 0
      · subst e0; exact x0.symm
      rw [if_neg e0]
      by_cases e1 : j = 1
      · subst e1; exact x1.symm
      rw [if_neg e1]
      by_cases e2 : j = 2
      · subst e2; exact x2.symm
      rw [if_neg e2]
      by_cases e3 : j = 3
      · subst e3; exact x3.symm
      rw [if_neg e3]
      by_cases e4 : j = 4
      · subst e4; exact x4.symm
      rw [if_neg e4]
      by_cases e5 : j = 5
      · subst e5; exact x5.symm
      rw [if_neg e5]
      by_cases e6 : j = 6
      · subst e6; exact x6.symm
      rw [if_neg e6]
      by_cases e7 : j = 7
      · subst e7; exact x7.symm
      rw [if_neg e7]
      by_cases e8 : j = 8
      · subst e8; exact x8.symm
      rw [if_neg e8]
      by_cases e9 : j = 9
      · subst e9; exact x9.symm
      rw [if_neg e9]
      by_cases e10 : j = 10
      · subst e10; exact x10.symm
      rw [if_neg e10]
      by_cases e11 : j = 11
      · subst e11; exact x11.symm
      rw [if_neg e11]
      by_cases e12 : j = 12
      · subst e12; exact x12.symm
      rw [if_neg e12]
      by_cases e13 : j = 13
      · subst e13; exact x13.symm
      rw [if_neg e13]
      by_cases e14 : j = 14
      · subst e14; exact x14.symm
      rw [if_neg e14]
      by_cases e15 : j = 15
      · subst e15; exact x15.symm
      rw [if_neg e15]
      by_cases e16 : j = 16
      · subst e16; exact x16.symm
      rw [if_neg e16]
      by_cases e17 : j = 17
      · subst e17; exact x17.symm
      rw [if_neg e17]
      by_cases e18 : j = 18
      · subst e18; exact x18.symm
      rw [if_neg e18]
      by_cases e19 : j = 19
      · subst e19; exact x19.symm
      rw [if_neg e19]
      by_cases e20 : j = 20
      · subst e20; exact x20.symm
      rw [if_neg e20]
      by_cases e21 : j = 21
      · subst e21; exact x21.symm
      rw [if_neg e21]
      by_cases e22 : j = 22
      · subst e22; exact x22.symm
      rw [if_neg e22]
      by_cases e23 : j = 23
      · subst e23; exact x23.symm
      rw [if_neg e23]
    | i + 25, hoi => simp at hoi
  case hend =>
    intro w5 hR
    dsimp only
    go_wp2
    go_ret
    exact ⟨rfl, hR.bel HB⟩
set_option maxHeartbeats 4000000 in
set_option maxRecDepth 100000 in
theorem rvalid_Ff (d note inst vc va e p : Int) (d1 : 1 ≤ d) (d2 : d ≤ 6) (hc : cellB note inst vc va e p = true) (hn : noteD d note = true) (hv : vc ≤ volC d) (he : e ≠ 0) (hh : hasL (letS d).data.toList (letN e) = false) (w : World) : Calls Tryz.prog 8 #[.int .i64 d, .agg #[.int .i64 note, .int .i64 inst, .int .i64 vc, .int .i64 va, .int .i64 e, .int .i64 p]] w fun x w' => x = .returned (.bool false) ∧ BelowW w w' := by
  have HE := hid (qe_ok ⟨d1, d2⟩)
  have HC := hid hc
  have HN := hid hn
  have hv1 := decide_eq_true hv
  have te : (e == 0) = false := beq_false he
  have HI : Hid (1 ≤ e ∧ e ≤ 36) := hid (by have := (cellB_eff hc); omega)
  have HH := hid hh
  clear hv he hh
  clear d1 d2 hc hn
  have HS := hid (Six.box note inst vc va e p w)
  have HB : BelowW w (w.alloc (.cells #[.int .i64 note, .int .i64 inst, .int .i64 vc, .int .i64 va, .int .i64 e, .int .i64 p] 23)) := below1 w _
  have HQ := hid (refquirks_any d (w.alloc (.cells #[.int .i64 note, .int .i64 inst, .int .i64 vc, .int .i64 va, .int .i64 e, .int .i64 p] 23)))
  go_enter Tryz.func8, Tryz.ntmps8
  go_upto_region 1 with (fail)
  generalize w.alloc (.cells #[.int .i64 note, .int .i64 inst, .int .i64 vc, .int .i64 va, .int .i64 e, .int .i64 p] 23) = w0 at *
  generalize w.heap.size = g at *
  go_wp2_with fail
  go_at_call 15
  refine HQ.out.mono ?_
  rintro x w2 ⟨rfl, hb⟩
  rw [HE.out]
  replace HS := hid (HS.out.next hb)
  replace HB := belowW_step HB hb
  clear hb HQ
  go_upto_region 2 with (refine wpList_store_new rfl 39 _ _ rfl (qz 0) (qz d) rfl rfl (infoq d) (by rw [qz_size, qz_size]) (qz_one d) ?_)
  replace HS := hid (HS.out.next (below1 w2 (.cells (qz d) 39)))
  replace HB := belowW_step HB (below1 w2 (.cells (qz d) 39))
  generalize w2.alloc (.cells (qz d) 39) = w3 at *
  generalize w2.heap.size = g5 at *
  obtain ⟨q0, q1, q2, q3, q4, q5, -⟩ := HS.out
  go_wp2_with fail
  go_at_call 24
  refine (vcell24_is note inst vc va e p _ HC.out _).mono ?_
  rintro x w4 ⟨rfl, hb⟩
  replace HS := hid (HS.out.next hb)
  replace HB := belowW_step HB hb
  clear hb q0 q1 q2 q3 q4 q5
  go_upto_region 4 with (fail)
  have HS4 : Hid (Six g note inst vc va e p w4 w4) := hid (HS.out.self)
  obtain ⟨w1, hw1⟩ : ∃ z, z = w4 := ⟨_, rfl⟩
  rw [← hw1] at HS4 HB ⊢
  clear HS hw1
  refine wp_region_pure (n := 25) (fun X => #[.int .i64 d, .agg #[.int .i64 note, .int .i64 inst, .int .i64 vc, .int .i64 va, .int .i64 e, .int .i64 p], undef, .pointer (some ⟨g, 0, none⟩), X 24, .pointer (some ⟨g5, 0, none⟩), .int .i64 0, .tuple #[.agg (qz d), .int .i64 0], .int .i64 d, .tuple #[.agg (qz d), .int .i64 0], .agg (qz d), .int .i64 0, .int .i64 0, .bool false, .bool false, .agg #[.int .i64 note, .int .i64 inst, .int .i64 vc, .int .i64 va, .int .i64 e, .int .i64 p], .bool true, .bool false, .bool false, X 0, X 1, X 2, X 3, X 4, X 5, X 6, X 7, X 8, X 9, X 10, X 11, X 12, X 13, X 14, X 15, X 16, X 17, X 18, X 19, X 20, X 21, X 22, X 23]) (fun j => match j with | 0 => .int .i64 d | 1 => .pointer (some ⟨g, 0, none⟩) | 2 => .int .i64 note | 3 => .bool true | 4 => .bool true | 5 => .pointer (some ⟨g, 2, none⟩) | 6 => .int .i64 vc | 7 => .int .i64 d | 8 => .int .i64 (volC d) | 9 => .bool true | 10 => .bool true | 11 => .bool true | 12 => .pointer (some ⟨g, 4, none⟩) | 13 => .int .i64 e | 14 => .bool false | 15 => .bool false | 16 => .int .i64 d | 17 => .string (letS d) | 18 => .pointer (some ⟨g, 4, none⟩) | 19 => .int .i64 e | 20 => .int .u8 (letN e) | 21 => .bool false | 22 => .bool false | 23 => .bool false | 24 => .bool false | _ => undef) (Six g note inst vc va e p w1) (fun j => match j with | 24 => .bool false | _ => undef) (by kernel_rfl) rfl (by kernel_rfl) rfl ?hR0 ?hfr ?hstep ?hend
  case hR0 => exact HS4.out.drew
  case hfr =>
    intro X h
    simp only [h 0 (by decide), h 1 (by decide), h 2 (by decide), h 3 (by decide), h 4 (by decide), h 5 (by decide), h 6 (by decide), h 7 (by decide), h 8 (by decide), h 9 (by decide), h 10 (by decide), h 11 (by decide), h 12 (by decide), h 13 (by decide), h 14 (by decide), h 15 (by decide), h 16 (by decide), h 17 (by decide), h 18 (by decide), h 19 (by decide), h 20 (by decide), h 21 (by decide), h 22 (by decide), h 23 (by decide), h 24 (by decide)]
  case hstep =>
    intro i oi hoi X w5 h hR
    match i, hoi with
    | 0, hoi =>
      cases hoi
      clear h
      refine wpOp_do rfl rfl ?_
      go_simp
      exact ⟨rfl, hR⟩
    | 1, hoi =>
      cases hoi
      clear h
      refine wpOp_do rfl rfl ?_
      go_simp
      exact ⟨rfl, hR⟩
    | 2, hoi =>
      cases hoi
      have x1 : X 1 = .pointer (some ⟨g, 0, none⟩) := h ⟨1, .data⟩ (by simp) (by rfl)
      clear h
      refine wpOp_do rfl rfl ?_
      simp only [x1]
      obtain ⟨q0, q1, q2, q3, q4, q5, -⟩ := id hR
      go_simp
      refine Stepped.mk2 (fun j => if j = 2 then .int .i64 note else if j = 1 then .pointer (some ⟨g, 0, none⟩) else X j) (fun j hj => ?_) rfl hR
      rw [if_neg hj]
      by_cases e1 : j = 1
      · subst e1; exact x1.symm
      rw [if_neg e1]
    | 3, hoi =>
      cases hoi
      have x0 : X 0 = .int .i64 d := h ⟨0, .data⟩ (by simp) (by rfl)
      have x2 : X 2 = .int .i64 note := h ⟨2, .data⟩ (by simp) (by rfl)
      clear h
      refine wpOp_do rfl rfl ?_
      simp only [x0, x2]
      go_simp
      go_at_call 25
      refine (rnoted_is d note _ HN.out _).mono ?_
      rintro x w6 ⟨rfl, hb⟩
      go_simp
      refine Stepped.mk2 (fun j => if j = 3 then .bool true else if j = 0 then .int .i64 d else if j = 2 then .int .i64 note else X j) (fun j hj => ?_) rfl (hR.next hb)
      rw [if_neg hj]
      by_cases e0 : j = 0
      · subst e0; exact x0.symm
      rw [if_neg e0]
      by_cases e2 : j = 2
      · subst e2; exact x2.symm
      rw [if_neg e2]
    | 4, hoi =>
      cases hoi
      have x3 : X 3 = .bool true := h ⟨3, .data⟩ (by simp) (by rfl)
      clear h
      refine wpOp_do rfl rfl ?_
      simp only [x3]
      go_simp
      refine Stepped.mk2 (fun j => if j = 4 then .bool true else if j = 3 then .bool true else X j) (fun j hj => ?_) rfl hR
      rw [if_neg hj]
      by_cases e3 : j = 3
      · subst e3; exact x3.symm
      rw [if_neg e3]
    | 5, hoi =>
      cases hoi
      have x4 : X 4 = .bool true := h ⟨4, .guard⟩ (by simp) (by rfl)
      clear h
      refine wpOp_do rfl ?_ ?_
      · show Region.wanted _ (yielded _ _) = true
        simp only [x4]
        rfl
      simp only [x4]
      go_simp
      refine Stepped.mk2 (fun j => if j = 5 then .pointer (some ⟨g, 2, none⟩) else if j = 4 then .bool true else X j) (fun j hj => ?_) rfl hR
      rw [if_neg hj]
      by_cases e4 : j = 4
      · subst e4; exact x4.symm
      rw [if_neg e4]
    | 6, hoi =>
      cases hoi
      have x5 : X 5 = .pointer (some ⟨g, 2, none⟩) := h ⟨5, .data⟩ (by simp) (by rfl)
      have x4 : X 4 = .bool true := h ⟨4, .guard⟩ (by simp) (by rfl)
      clear h
      refine wpOp_do rfl ?_ ?_
      · show Region.wanted _ (yielded _ _) = true
        simp only [x4, x5]
        rfl
      simp only [x4, x5]
      obtain ⟨q0, q1, q2, q3, q4, q5, -⟩ := id hR
      go_simp
      refine Stepped.mk2 (fun j => if j = 6 then .int .i64 vc else if j = 4 then .bool true else if j = 5 then .pointer (some ⟨g, 2, none⟩) else X j) (fun j hj => ?_) rfl hR
      rw [if_neg hj]
      by_cases e4 : j = 4
      · subst e4; exact x4.symm
      rw [if_neg e4]
      by_cases e5 : j = 5
      · subst e5; exact x5.symm
      rw [if_neg e5]
    | 7, hoi =>
      cases hoi
      have x4 : X 4 = .bool true := h ⟨4, .guard⟩ (by simp) (by rfl)
      clear h
      refine wpOp_do rfl ?_ ?_
      · show Region.wanted _ (yielded _ _) = true
        simp only [x4]
        rfl
      simp only [x4]
      go_simp
      refine Stepped.mk2 (fun j => if j = 7 then .int .i64 d else if j = 4 then .bool true else X j) (fun j hj => ?_) rfl hR
      rw [if_neg hj]
      by_cases e4 : j = 4
      · subst e4; exact x4.symm
      rw [if_neg e4]
    | 8, hoi =>
      cases hoi
      have x7 : X 7 = .int .i64 d := h ⟨7, .data⟩ (by simp) (by rfl)
      have x4 : X 4 = .bool true := h ⟨4, .chain⟩ (by simp) (by rfl)
      clear h
      refine wpOp_do rfl ?_ ?_
      · show Region.wanted _ (yielded _ _) = true
        simp only [x4, x7]
        rfl
      simp only [x4, x7]
      go_simp
      go_at_call 26
      refine (rcommands_any d _).mono ?_
      rintro x w6 ⟨rfl, rfl⟩
      go_simp
      refine Stepped.mk2 (fun j => if j = 8 then .int .i64 (volC d) else if j = 4 then .bool true else if j = 7 then .int .i64 d else X j) (fun j hj => ?_) rfl hR
      rw [if_neg hj]
      by_cases e4 : j = 4
      · subst e4; exact x4.symm
      rw [if_neg e4]
      by_cases e7 : j = 7
      · subst e7; exact x7.symm
      rw [if_neg e7]
    | 9, hoi =>
      cases hoi
      have x6 : X 6 = .int .i64 vc := h ⟨6, .data⟩ (by simp) (by rfl)
      have x8 : X 8 = .int .i64 (volC d) := h ⟨8, .data⟩ (by simp) (by rfl)
      have x4 : X 4 = .bool true := h ⟨4, .guard⟩ (by simp) (by rfl)
      clear h
      refine wpOp_do rfl ?_ ?_
      · show Region.wanted _ (yielded _ _) = true
        simp only [x4, x6, x8]
        rfl
      simp only [x4, x6, x8]
      go_simp
      refine Stepped.mk2 (fun j => if j = 9 then .bool true else if j = 4 then .bool true else if j = 6 then .int .i64 vc else if j = 8 then .int .i64 (volC d) else X j) (fun j hj => ?_) rfl hR
      rw [if_neg hj]
      by_cases e4 : j = 4
      · subst e4; exact x4.symm
      rw [if_neg e4]
      by_cases e6 : j = 6
      · subst e6; exact x6.symm
      rw [if_neg e6]
      by_cases e8 : j = 8
      · subst e8; exact x8.symm
      rw [if_neg e8]
    | 10, hoi =>
      cases hoi
      have x4 : X 4 = .bool true := h ⟨4, .data⟩ (by simp) (by rfl)
      have x9 : X 9 = .bool true := h ⟨9, .data⟩ (by simp) (by rfl)
      clear h
      refine wpOp_do rfl rfl ?_
      simp only [x4, x9]
      go_simp
      refine Stepped.mk2 (fun j => if j = 10 then .bool true else if j = 4 then .bool true else if j = 9 then .bool true else X j) (fun j hj => ?_) rfl hR
      rw [if_neg hj]
      by_cases e4 : j = 4
      · subst e4; exact x4.symm
      rw [if_neg e4]
      by_cases e9 : j = 9
      · subst e9; exact x9.symm
      rw [if_neg e9]
    | 11, hoi =>
      cases hoi
      have x10 : X 10 = .bool true := h ⟨10, .data⟩ (by simp) (by rfl)
      have x8 : X 8 = .int .i64 (volC d) := h ⟨8, .chain⟩ (by simp) (by rfl)
      clear h
      refine wpOp_do rfl rfl ?_
      simp only [x8, x10]
      go_simp
      refine Stepped.mk2 (fun j => if j = 11 then .bool true else if j = 8 then .int .i64 (volC d) else if j = 10 then .bool true else X j) (fun j hj => ?_) rfl hR
      rw [if_neg hj]
      by_cases e8 : j = 8
      · subst e8; exact x8.symm
      rw [if_neg e8]
      by_cases e10 : j = 10
      · subst e10; exact x10.symm
      rw [if_neg e10]
    | 12, hoi =>
      cases hoi
      have x11 : X 11 = .bool true := h ⟨11, .guard⟩ (by simp) (by rfl)
      clear h
      refine wpOp_do rfl ?_ ?_
      · show Region.wanted _ (yielded _ _) = true
        simp only [x11]
        rfl
      simp only [x11]
      go_simp
      refine Stepped.mk2 (fun j => if j = 12 then .pointer (some ⟨g, 4, none⟩) else if j = 11 then .bool true else X j) (fun j hj => ?_) rfl hR
      rw [if_neg hj]
      by_cases e11 : j = 11
      · subst e11; exact x11.symm
      rw [if_neg e11]
    | 13, hoi =>
      cases hoi
      have x12 : X 12 = .pointer (some ⟨g, 4, none⟩) := h ⟨12, .data⟩ (by simp) (by rfl)
      have x11 : X 11 = .bool true := h ⟨11, .guard⟩ (by simp) (by rfl)
      clear h
      refine wpOp_do rfl ?_ ?_
      · show Region.wanted _ (yielded _ _) = true
        simp only [x11, x12]
        rfl
      simp only [x11, x12]
      obtain ⟨q0, q1, q2, q3, q4, q5, -⟩ := id hR
      go_simp
      refine Stepped.mk2 (fun j => if j = 13 then .int .i64 e else if j = 11 then .bool true else if j = 12 then .pointer (some ⟨g, 4, none⟩) else X j) (fun j hj => ?_) rfl hR
      rw [if_neg hj]
      by_cases e11 : j = 11
      · subst e11; exact x11.symm
      rw [if_neg e11]
      by_cases e12 : j = 12
      · subst e12; exact x12.symm
      rw [if_neg e12]
    | 14, hoi =>
      cases hoi
      have x13 : X 13 = .int .i64 e := h ⟨13, .data⟩ (by simp) (by rfl)
      have x11 : X 11 = .bool true := h ⟨11, .guard⟩ (by simp) (by rfl)
      clear h
      refine wpOp_do rfl ?_ ?_
      · show Region.wanted _ (yielded _ _) = true
        simp only [x11, x13]
        rfl
      simp only [x11, x13]
      go_simp
      refine Stepped.mk2 (fun j => if j = 14 then .bool false else if j = 11 then .bool true else if j = 13 then .int .i64 e else X j) (fun j hj => ?_) rfl hR
      rw [if_neg hj]
      by_cases e11 : j = 11
      · subst e11; exact x11.symm
      rw [if_neg e11]
      by_cases e13 : j = 13
      · subst e13; exact x13.symm
      rw [if_neg e13]
    | 15, hoi =>
      cases hoi
      have x14 : X 14 = .bool false := h ⟨14, .data⟩ (by simp) (by rfl)
      have x11 : X 11 = .bool true := h ⟨11, .chain⟩ (by simp) (by rfl)
      clear h
      refine wpOp_do rfl ?_ ?_
      · show Region.wanted _ (yielded _ _) = true
        simp only [x11, x14]
        rfl
      simp only [x11, x14]
      go_simp
      refine Stepped.mk2 (fun j => if j = 15 then .bool false else if j = 11 then .bool true else if j = 14 then .bool false else X j) (fun j hj => ?_) rfl hR
      rw [if_neg hj]
      by_cases e11 : j = 11
      · subst e11; exact x11.symm
      rw [if_neg e11]
      by_cases e14 : j = 14
      · subst e14; exact x14.symm
      rw [if_neg e14]
    | 16, hoi =>
      cases hoi
      have x15 : X 15 = .bool false := h ⟨15, .guard⟩ (by simp) (by rfl)
      clear h
      refine wpOp_do rfl ?_ ?_
      · show Region.wanted _ (yielded _ _) = true
        simp only [x15]
        rfl
      simp only [x15]
      go_simp
      refine Stepped.mk2 (fun j => if j = 16 then .int .i64 d else if j = 15 then .bool false else X j) (fun j hj => ?_) rfl hR
      rw [if_neg hj]
      by_cases e15 : j = 15
      · subst e15; exact x15.symm
      rw [if_neg e15]
    | 17, hoi =>
      cases hoi
      have x16 : X 16 = .int .i64 d := h ⟨16, .data⟩ (by simp) (by rfl)
      have x15 : X 15 = .bool false := h ⟨15, .chain⟩ (by simp) (by rfl)
      clear h
      refine wpOp_do rfl ?_ ?_
      · show Region.wanted _ (yielded _ _) = true
        simp only [x15, x16]
        rfl
      simp only [x15, x16]
      go_simp
      go_at_call 17
      refine (rletters_any d _).mono ?_
      rintro x w6 ⟨rfl, rfl⟩
      go_simp
      refine Stepped.mk2 (fun j => if j = 17 then .string (letS d) else if j = 15 then .bool false else if j = 16 then .int .i64 d else X j) (fun j hj => ?_) rfl hR
      rw [if_neg hj]
      by_cases e15 : j = 15
      · subst e15; exact x15.symm
      rw [if_neg e15]
      by_cases e16 : j = 16
      · subst e16; exact x16.symm
      rw [if_neg e16]
    | 18, hoi =>
      cases hoi
      have x15 : X 15 = .bool false := h ⟨15, .guard⟩ (by simp) (by rfl)
      clear h
      refine wpOp_do rfl ?_ ?_
      · show Region.wanted _ (yielded _ _) = true
        simp only [x15]
        rfl
      simp only [x15]
      go_simp
      refine Stepped.mk2 (fun j => if j = 18 then .pointer (some ⟨g, 4, none⟩) else if j = 15 then .bool false else X j) (fun j hj => ?_) rfl hR
      rw [if_neg hj]
      by_cases e15 : j = 15
      · subst e15; exact x15.symm
      rw [if_neg e15]
    | 19, hoi =>
      cases hoi
      have x18 : X 18 = .pointer (some ⟨g, 4, none⟩) := h ⟨18, .data⟩ (by simp) (by rfl)
      have x15 : X 15 = .bool false := h ⟨15, .guard⟩ (by simp) (by rfl)
      clear h
      refine wpOp_do rfl ?_ ?_
      · show Region.wanted _ (yielded _ _) = true
        simp only [x15, x18]
        rfl
      simp only [x15, x18]
      obtain ⟨q0, q1, q2, q3, q4, q5, -⟩ := id hR
      go_simp
      refine Stepped.mk2 (fun j => if j = 19 then .int .i64 e else if j = 15 then .bool false else if j = 18 then .pointer (some ⟨g, 4, none⟩) else X j) (fun j hj => ?_) rfl hR
      rw [if_neg hj]
      by_cases e15 : j = 15
      · subst e15; exact x15.symm
      rw [if_neg e15]
      by_cases e18 : j = 18
      · subst e18; exact x18.symm
      rw [if_neg e18]
    | 20, hoi =>
      cases hoi
      have x19 : X 19 = .int .i64 e := h ⟨19, .data⟩ (by simp) (by rfl)
      have x17 : X 17 = .string (letS d) := h ⟨17, .chain⟩ (by simp) (by rfl)
      have x15 : X 15 = .bool false := h ⟨15, .guard⟩ (by simp) (by rfl)
      clear h
      refine wpOp_do rfl ?_ ?_
      · show Region.wanted _ (yielded _ _) = true
        simp only [x15, x17, x19]
        rfl
      simp only [x15, x17, x19]
      go_simp
      go_at_call 28
      refine (rlet_any e HI.out.1 HI.out.2 _).mono ?_
      rintro x w6 ⟨rfl, rfl⟩
      go_simp
      refine Stepped.mk2 (fun j => if j = 20 then .int .u8 (letN e) else if j = 15 then .bool false else if j = 17 then .string (letS d) else if j = 19 then .int .i64 e else X j) (fun j hj => ?_) rfl hR
      rw [if_neg hj]
      by_cases e15 : j = 15
      · subst e15; exact x15.symm
      rw [if_neg e15]
      by_cases e17 : j = 17
      · subst e17; exact x17.symm
      rw [if_neg e17]
      by_cases e19 : j = 19
      · subst e19; exact x19.symm
      rw [if_neg e19]
    | 21, hoi =>
      cases hoi
      have x17 : X 17 = .string (letS d) := h ⟨17, .data⟩ (by simp) (by rfl)
      have x20 : X 20 = .int .u8 (letN e) := h ⟨20, .data⟩ (by simp) (by rfl)
      have x15 : X 15 = .bool false := h ⟨15, .guard⟩ (by simp) (by rfl)
      clear h
      refine wpOp_do rfl ?_ ?_
      · show Region.wanted _ (yielded _ _) = true
        simp only [x15, x17, x20]
        rfl
      simp only [x15, x17, x20]
      go_simp
      go_at_call 27
      refine (has_is (letS d) (letN e) _ HH.out (letS_len d) _).mono ?_
      rintro x w6 ⟨rfl, rfl⟩
      go_simp
      refine Stepped.mk2 (fun j => if j = 21 then .bool false else if j = 15 then .bool false else if j = 17 then .string (letS d) else if j = 20 then .int .u8 (letN e) else X j) (fun j hj => ?_) rfl hR
      rw [if_neg hj]
      by_cases e15 : j = 15
      · subst e15; exact x15.symm
      rw [if_neg e15]
      by_cases e17 : j = 17
      · subst e17; exact x17.symm
      rw [if_neg e17]
      by_cases e20 : j = 20
      · subst e20; exact x20.symm
      rw [if_neg e20]
    | 22, hoi =>
      cases hoi
      have x15 : X 15 = .bool false := h ⟨15, .data⟩ (by simp) (by rfl)
      have x21 : X 21 = .bool false := h ⟨21, .data⟩ (by simp) (by rfl)
      have x11 : X 11 = .bool true := h ⟨11, .guard⟩ (by simp) (by rfl)
      clear h
      refine wpOp_do rfl ?_ ?_
      · show Region.wanted _ (yielded _ _) = true
        simp only [x11, x15, x21]
        rfl
      simp only [x11, x15, x21]
      go_simp
      refine Stepped.mk2 (fun j => if j = 22 then .bool false else if j = 11 then .bool true else if j = 15 then .bool false else if j = 21 then .bool false else X j) (fun j hj => ?_) rfl hR
      rw [if_neg hj]
      by_cases e11 : j = 11
      · subst e11; exact x11.symm
      rw [if_neg e11]
      by_cases e15 : j = 15
      · subst e15; exact x15.symm
      rw [if_neg e15]
      by_cases e21 : j = 21
      · subst e21; exact x21.symm
      rw [if_neg e21]
    | 23, hoi =>
      cases hoi
      have x11 : X 11 = .bool true := h ⟨11, .data⟩ (by simp) (by rfl)
      have x22 : X 22 = .bool false := h ⟨22, .data⟩ (by simp) (by rfl)
      clear h
      refine wpOp_do rfl rfl ?_
      simp only [x11, x22]
      go_simp
      refine Stepped.mk2 (fun j => if j = 23 then .bool false else if j = 11 then .bool true else if j = 22 then .bool false else X j) (fun j hj => ?_) rfl hR
      rw [if_neg hj]
      by_cases e11 : j = 11
      · subst e11; exact x11.symm
      rw [if_neg e11]
      by_cases e22 : j = 22
      · subst e22; exact x22.symm
      rw [if_neg e22]
    | 24, hoi =>
      cases hoi
      have x23 : X 23 = .bool false := h ⟨23, .data⟩ (by simp) (by rfl)
      have x21 : X 21 = .bool false := h ⟨21, .chain⟩ (by simp) (by rfl)
      have x0 : X 0 = .int .i64 d := h ⟨0, .phase⟩ (by simp) (by rfl)
      have x1 : X 1 = .pointer (some ⟨g, 0, none⟩) := h ⟨1, .phase⟩ (by simp) (by rfl)
      have x2 : X 2 = .int .i64 note := h ⟨2, .phase⟩ (by simp) (by rfl)
      have x3 : X 3 = .bool true := h ⟨3, .phase⟩ (by simp) (by rfl)
      have x4 : X 4 = .bool true := h ⟨4, .phase⟩ (by simp) (by rfl)
      have x5 : X 5 = .pointer (some ⟨g, 2, none⟩) := h ⟨5, .phase⟩ (by simp) (by rfl)
      have x6 : X 6 = .int .i64 vc := h ⟨6, .phase⟩ (by simp) (by rfl)
      have x7 : X 7 = .int .i64 d := h ⟨7, .phase⟩ (by simp) (by rfl)
      have x8 : X 8 = .int .i64 (volC d) := h ⟨8, .phase⟩ (by simp) (by rfl)
      have x9 : X 9 = .bool true := h ⟨9, .phase⟩ (by simp) (by rfl)
      have x10 : X 10 = .bool true := h ⟨10, .phase⟩ (by simp) (by rfl)
      have x11 : X 11 = .bool true := h ⟨11, .phase⟩ (by simp) (by rfl)
      have x12 : X 12 = .pointer (some ⟨g, 4, none⟩) := h ⟨12, .phase⟩ (by simp) (by rfl)
      have x13 : X 13 = .int .i64 e := h ⟨13, .phase⟩ (by simp) (by rfl)
      have x14 : X 14 = .bool false := h ⟨14, .phase⟩ (by simp) (by rfl)
      have x15 : X 15 = .bool false := h ⟨15, .phase⟩ (by simp) (by rfl)
      have x16 : X 16 = .int .i64 d := h ⟨16, .phase⟩ (by simp) (by rfl)
      have x17 : X 17 = .string (letS d) := h ⟨17, .phase⟩ (by simp) (by rfl)
      have x18 : X 18 = .pointer (some ⟨g, 4, none⟩) := h ⟨18, .phase⟩ (by simp) (by rfl)
      have x19 : X 19 = .int .i64 e := h ⟨19, .phase⟩ (by simp) (by rfl)
      have x20 : X 20 = .int .u8 (letN e) := h ⟨20, .phase⟩ (by simp) (by rfl)
      have x22 : X 22 = .bool false := h ⟨22, .phase⟩ (by simp) (by rfl)
      clear h
      refine wpOp_do rfl rfl ?_
      simp only [x0, x1, x2, x3, x4, x5, x6, x7, x8, x9, x10, x11, x12, x13, x14, x15, x16, x17, x18, x19, x20, x21, x22, x23]
      go_simp
      refine Stepped.mk2 (fun j => if j = 24 then .bool false else if j = 0 then .int .i64 d else if j = 1 then .pointer (some ⟨g, 0, none⟩) else if j = 2 then .int .i64 note else if j = 3 then .bool true else if j = 4 then .bool true else if j = 5 then .pointer (some ⟨g, 2, none⟩) else if j = 6 then .int .i64 vc else if j = 7 then .int .i64 d else if j = 8 then .int .i64 (volC d) else if j = 9 then .bool true else if j = 10 then .bool true else if j = 11 then .bool true else if j = 12 then .pointer (some ⟨g, 4, none⟩) else if j = 13 then .int .i64 e else if j = 14 then .bool false else if j = 15 then .bool false else if j = 16 then .int .i64 d else if j = 17 then .string (letS d) else if j = 18 then .pointer (some ⟨g, 4, none⟩) else if j = 19 then .int .i64 e else if j = 20 then .int .u8 (letN e) else if j = 21 then .bool false else if j = 22 then .bool false else if j = 23 then .bool false else X j) (fun j hj => ?_) rfl hR
      rw [if_neg hj]
      by_cases e0 : j = 0
      · subst e0; exact x0.symm
      rw [if_neg e0]
      by_cases e1 : j = 1
      · subst e1; exact x1.symm
      rw [if_neg e1]
      by_cases e2 : j = 2
      · subst e2; exact x2.symm
      rw [if_neg e2]
      by_cases e3 : j = 3
      · subst e3; exact x3.symm
      rw [if_neg e3]
      by_cases e4 : j = 4
      · subst e4; exact x4.symm
      rw [if_neg e4]
      by_cases e5 : j = 5
      · subst e5; exact x5.symm
      rw [if_neg e5]
      by_cases e6 : j = 6
      · subst e6; exact x6.symm
      rw [if_neg e6]
      by_cases e7 : j = 7
      · subst e7; exact x7.symm
      rw [if_neg e7]
      by_cases e8 : j = 8
      · subst e8; exact x8.symm
      rw [if_neg e8]
      by_cases e9 : j = 9
      · subst e9; exact x9.symm
      rw [if_neg e9]
      by_cases e10 : j = 10
      · subst e10; exact x10.symm
      rw [if_neg e10]
      by_cases e11 : j = 11
      · subst e11; exact x11.symm
      rw [if_neg e11]
      by_cases e12 : j = 12
      · subst e12; exact x12.symm
      rw [if_neg e12]
      by_cases e13 : j = 13
      · subst e13; exact x13.symm
      rw [if_neg e13]
      by_cases e14 : j = 14
      · subst e14; exact x14.symm
      rw [if_neg e14]
      by_cases e15 : j = 15
      · subst e15; exact x15.symm
      rw [if_neg e15]
      by_cases e16 : j = 16
      · subst e16; exact x16.symm
      rw [if_neg e16]
      by_cases e17 : j = 17
      · subst e17; exact x17.symm
      rw [if_neg e17]
      by_cases e18 : j = 18
      · subst e18; exact x18.symm
      rw [if_neg e18]
      by_cases e19 : j = 19
      · subst e19; exact x19.symm
      rw [if_neg e19]
      by_cases e20 : j = 20
      · subst e20; exact x20.symm
      rw [if_neg e20]
      by_cases e21 : j = 21
      · subst e21; exact x21.symm
      rw [if_neg e21]
      by_cases e22 : j = 22
      · subst e22; exact x22.symm
      rw [if_neg e22]
      by_cases e23 : j = 23
      · subst e23; exact x23.symm
      rw [if_neg e23]
    | i + 25, hoi => simp at hoi
  case hend =>
    intro w5 hR
    dsimp only
    go_wp2
    go_ret
    exact ⟨rfl, hR.bel HB⟩
theorem rvalid_any (d note inst vc va e p : Int) (w : World) : Calls Tryz.prog 8 #[.int .i64 d, .agg #[.int .i64 note, .int .i64 inst, .int .i64 vc, .int .i64 va, .int .i64 e, .int .i64 p]] w fun x w' => x = .returned (.bool (validB d note inst vc va e p)) ∧ BelowW w w' := by
  unfold validB isD
  by_cases hd : 1 ≤ d ∧ d ≤ 6
  · obtain ⟨d1, d2⟩ := hd
    rw [decide_eq_true d1, decide_eq_true d2]
    cases hc : cellB note inst vc va e p with
    | false => exact rvalid_B d note inst vc va e p d1 d2 hc w
    | true =>
      cases hn : noteD d note with
      | false => exact rvalid_C d note inst vc va e p d1 d2 hc hn w
      | true =>
        by_cases hv : vc ≤ volC d
        · rw [decide_eq_true hv]
          unfold effD
          by_cases he : e = 0
          · rw [if_pos he]; exact rvalid_E d note inst vc va e p d1 d2 hc hn hv he w
          · rw [if_neg he]
            cases hh : hasL (letS d).data.toList (letN e) with
            | true => exact rvalid_Ft d note inst vc va e p d1 d2 hc hn hv he hh w
            | false => exact rvalid_Ff d note inst vc va e p d1 d2 hc hn hv he hh w
        · rw [decide_eq_false hv]; exact rvalid_D d note inst vc va e p d1 d2 hc hn (by omega) w
  · have : (decide (1 ≤ d) && decide (d ≤ 6)) = false := by
      rw [Bool.and_eq_false_iff, decide_eq_false_iff_not, decide_eq_false_iff_not]; omega
    rw [this]
    exact rvalid_A d note inst vc va e p hd w
end Go.Proofs.YtkpielgdfahanaaGreat
