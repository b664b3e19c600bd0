/- The law DialectResolves: Resolve is the reference's along any cells, from any memory, in any dialect, at most three operations a cell. -/
import Derived.Test.YtkpielgdfahanaaGreatPar
import Derived.Test.YtkpielgdfahanaaGreatTablesLaw
namespace Go.Proofs.YtkpielgdfahanaaGreat
open Go.RowKit
theorem pres_is (M : List Int) (hM : M.length = 26) (d note inst vc va e p : Int) (O : List Opn) (N : List Int) (c : Int) (h1 : resO d note inst vc va e p M = O) (h2 : resM d note inst vc va e p M = N) (h3 : resC d note inst vc va e p M = c) (w : World) :
    Calls Tryz.prog 10 #[.int .i64 d, .agg (memV M), .agg #[.int .i64 note, .int .i64 inst, .int .i64 vc, .int .i64 va, .int .i64 e, .int .i64 p]] w (Res O N c w) := by
  subst h1 h2 h3; exact pres_any M hM d note inst vc va e p w
theorem rres_is (M : List Int) (hM : M.length = 26) (d note inst vc va e p : Int) (O : List Opn) (N : List Int) (c : Int) (h1 : resO d note inst vc va e p M = O) (h2 : resM d note inst vc va e p M = N) (h3 : resC d note inst vc va e p M = c) (w : World) :
    Calls Tryz.prog 11 #[.int .i64 d, .agg (memV M), .agg #[.int .i64 note, .int .i64 inst, .int .i64 vc, .int .i64 va, .int .i64 e, .int .i64 p]] w (Res O N c w) := by
  subst h1 h2 h3; exact rres_any M hM d note inst vc va e p w
/-- A slice of cells. -/
def CellsAt (w : World) (A : Option Addr) (n : Nat) : Prop := ∀ k, k < n → ∃ b off, ∃ note inst vc va e q : Int, A = some ⟨b, off, none⟩ ∧ RowAt w b (off + k * 6) (#[.int .i64 note, .int .i64 inst, .int .i64 vc, .int .i64 va, .int .i64 e, .int .i64 q] : Array Value).toList
theorem neq_same28 (M : List Int) (hM : M.length = 26) (w : World) : (binOp .neq 28 (.agg (memV M)) (.agg (memV M))).run Tryz.prog w = .ok (.bool false) w := by
  have := neq28 M M hM hM w
  rw [decide_eq_true rfl] at this
  exact this
theorem below_refl' (w : World) : BelowW w w := BelowW.refl w
set_option maxHeartbeats 4000000 in
set_option maxRecDepth 100000 in
theorem res_law (M : List Int) (hM : M.length = 26) (d : Int) (A : Option Addr) (n cap : Nat) (w : World) (hcells : CellsAt w A n) : Calls Tryz.prog 4 #[.int .i64 d, .agg (memV M), .slice A n cap] w fun x w' => x = .returned (.bool true) ∧ BelowW w w' := by
  have HM := hid hM
  have HCL := hid hcells
  clear hM hcells
  go_enter Tryz.func4, Tryz.ntmps4
  go_upto_region 1 with (fail)
  have H1 := hid (heap_alloc_new w (.cells (memV M) 28))
  have B1 : Hid (BelowW w (w.alloc (.cells (memV M) 28))) := hid (below1 w _)
  generalize w.alloc (.cells (memV M) 28) = w1 at *
  obtain ⟨g4, hg4⟩ : ∃ g4, g4 = w.heap.size := ⟨_, rfl⟩
  rw [← hg4] at H1
  have HG4 : Hid (w.heap.size ≤ g4) := hid (by omega)
  rw [← hg4]
  clear hg4
  have R1 := hid (row_M H1.out)
  have H2 := hid (((below1 w1 (.cells (memV M) 28)).block _ (Array.getElem?_eq_some_iff.1 H1.out).1).trans H1.out)
  have H3 := hid (heap_alloc_new w1 (.cells (memV M) 28))
  have HNE : Hid (g4 < w1.heap.size) := hid (Array.getElem?_eq_some_iff.1 H1.out).1
  have B2 := hid (B1.out.step (below1 w1 (.cells (memV M) 28)))
  have HG7 : Hid (w.heap.size ≤ w1.heap.size) := hid B1.out.size
  go_upto_region 2 with (first | (refine wpList_load_at rfl 28 _ rfl g4 0 rfl (memV M) _ R1.out Tryz.underlying28 rfl (by rw [memV_size HM.out]; exact size28) ?_) | (refine wpList_store_new rfl 28 _ _ rfl (memV zeroM) (memV M) rfl rfl (by rw [memV_size HM.out]; exact size28) (by rw [memV_size HM.out]; rfl) (memV_ones _) ?_))
  generalize w1.alloc (.cells (memV M) 28) = w2 at *
  generalize w1.heap.size = g7 at *
  clear H1 B1 R1
  go_wp2
  go_loopw [8] (fun i wr => ∃ (k : Nat) (N : List Int), k ≤ n ∧ i = .int .i64 k ∧ Hid (N.length = 26) ∧ Hid (wr.heap[g4]? = some (.cells (memV N) 28 (0, 0))) ∧ Hid (wr.heap[g7]? = some (.cells (memV N) 28 (0, 0))) ∧ Hid (BelowW w wr)) (fun i _ => n - (intOf i).toNat)
  case atStart => exact ⟨0, M, Nat.zero_le _, rfl, HM, H2, H3, B2⟩
  case round =>
    obtain ⟨k, N, hk, rfl, HN, HK4, HK7, HWR⟩ := hrel
    by_cases hlt : k < n
    · by_cases h100 : k < 100
      · have hlt1 : (k : Int) < (n : Int) := by omega
        have hlt2 : (k : Int) < 100 := by omega
        have hk0 : (0 : Int) ≤ (k : Int) := by omega
        obtain ⟨b, off, note, inst, vc, va, e, q, hA, hrow⟩ := HCL.out k hlt
        subst hA
        have HC := hid hrow
        clear hrow
        obtain ⟨O, hO⟩ : ∃ O, resO d note inst vc va e q N = O := ⟨_, rfl⟩
        obtain ⟨N2, hN2⟩ : ∃ N2, resM d note inst vc va e q N = N2 := ⟨_, rfl⟩
        obtain ⟨c, hc⟩ : ∃ c, resC d note inst vc va e q N = c := ⟨_, rfl⟩
        have HN3 : Hid (N2.length = 26) := hid (hN2 ▸ resM_len d note inst vc va e q HN.out)
        have HO3 : Hid (O.length ≤ 3) := hid (hO ▸ resO_len d note inst vc va e q HN.out)
        have HO := hid hO
        have HN2 := hid hN2
        have HCC := hid hc
        clear hO hN2 hc
        go_upto_region 5 with (fail)
        refine wp_region_par (n := 15) (α := Value × Nat) (fun X => #[.int .i64 d, .agg (memV M), .slice (some ⟨b, off, none⟩) n cap, undef, .pointer (some ⟨g4, 0, none⟩), undef, u6, .pointer (some ⟨g7, 0, none⟩), .int .i64 (k : Int), X 12, X 11, X 14, u12, u13, u14, .agg (memV M), .int .i64 (k : Int), .slice (some ⟨b, off, none⟩) n cap, .int .i64 (n : Int), .bool true, .bool true, .int .i64 (k : Int), .bool true, .bool true, u24, u25, X 7, X 0, X 1, X 2, X 3, X 4, X 5, X 6, X 8, X 9, X 10, u37, u38, u39, u40, u41, u42, u43, u44, u45, u46, u47, u48, u49, u50, u51, u52, u53, u54, u55, u56, u57, u58, u59, u60, u61, u62, u63, u64, u65, u66, u67, u68, u69, u70, undef]) (fun p => lval d N (some ⟨b, off, none⟩) n cap k ⟨b, off + k * 6, none⟩ #[.int .i64 note, .int .i64 inst, .int .i64 vc, .int .i64 va, .int .i64 e, .int .i64 q] N2 c p) (fun d p w => RR wr O N2 d p w) (fun j => match j with | 0 => u27 | 1 => u28 | 2 => u29 | 3 => u30 | 4 => u31 | 5 => u32 | 6 => u33 | 7 => u26 | 8 => u34 | 9 => u35 | 10 => u36 | 11 => u10 | 12 => u9 | 14 => u11 | _ => undef) (undef, 0) (by kernel_rfl) rfl (by kernel_rfl) rfl (RR.start _ _ _ _) ?_ ?_ ?_
        · intro p X h
          simp only [h 0 (by decide), h 1 (by decide), h 2 (by decide), h 3 (by decide), h 4 (by decide), h 5 (by decide), h 6 (by decide), h 7 (by decide), h 8 (by decide), h 9 (by decide), h 10 (by decide), h 11 (by decide), h 12 (by decide), h 14 (by decide)]
        · intro i oi hoi D p X w5 hd h hR
          match i, hoi with
          | 0, hoi =>
            cases hoi
            clear h
            refine wpOp_do rfl rfl ?_
            go_simp
            exact ⟨p, rfl, (fun _ _ => rfl), (hR.pure 0 (by decide) (by decide) (by decide) (fun x => by omega))⟩
          | 2, hoi =>
            cases hoi
            clear h
            refine wpOp_do rfl rfl ?_
            go_simp
            exact ⟨p, rfl, (fun _ _ => rfl), (hR.pure 2 (by decide) (by decide) (by decide) (fun x => by omega))⟩
          | 3, hoi =>
            cases hoi
            clear h
            refine wpOp_do rfl rfl ?_
            go_simp
            exact ⟨p, rfl, (fun _ _ => rfl), (hR.pure 3 (by decide) (by decide) (by decide) (fun x => by omega))⟩
          | 1, hoi =>
            cases hoi
            clear h
            refine wpOp_do rfl rfl ?_
            refine wp_load_at 28 _ rfl g4 0 rfl (memV N) _ (row_M ((hR.b.block _ (Array.getElem?_eq_some_iff.1 HK4.out).1).trans HK4.out)) Tryz.underlying28 rfl (by rw [memV_size HN.out]; exact size28) ?_
            exact ⟨p, rfl, (fun _ _ => rfl), (hR.pure 1 (by decide) (by decide) (by decide) (fun x => by omega))⟩
          | 4, hoi =>
            cases hoi
            have x2 : X 2 = .slice (some ⟨b, off, none⟩) n cap := (h ⟨2, .data⟩ (by simp) (by rfl)).1
            have x3 : X 3 = .int .i64 (k : Int) := (h ⟨3, .data⟩ (by simp) (by rfl)).1
            clear h
            refine wpOp_do rfl rfl ?_
            simp only [x2, x3]
            go_simp
            refine SteppedP.mk2 p (fun j => if j = 4 then .pointer (some ⟨b, off + k * 6, none⟩) else if j = 2 then .slice (some ⟨b, off, none⟩) n cap else if j = 3 then .int .i64 (k : Int) else X j) (fun j hj => ?_) rfl (fun _ _ => rfl) (hR.pure 4 (by decide) (by decide) (by decide) (fun x => by omega))
            rw [if_neg hj]
            by_cases e2 : j = 2
            · subst e2; exact x2.symm
            rw [if_neg e2]
            by_cases e3 : j = 3
            · subst e3; exact x3.symm
            rw [if_neg e3]
          | 5, hoi =>
            cases hoi
            have x4 : X 4 = .pointer (some ⟨b, off + k * 6, none⟩) := (h ⟨4, .data⟩ (by simp) (by rfl)).1
            clear h
            refine wpOp_do rfl rfl ?_
            simp only [x4]
            refine wp_load_at 23 _ rfl b (off + k * 6) rfl #[.int .i64 note, .int .i64 inst, .int .i64 vc, .int .i64 va, .int .i64 e, .int .i64 q] _ (HC.out.below (HWR.out.step hR.b)) Tryz.underlying23 rfl (by kernel_rfl) ?_
            refine SteppedP.mk2 p (fun j => if j = 5 then .agg #[.int .i64 note, .int .i64 inst, .int .i64 vc, .int .i64 va, .int .i64 e, .int .i64 q] else if j = 4 then .pointer (some ⟨b, off + k * 6, none⟩) else X j) (fun j hj => ?_) rfl (fun _ _ => rfl) (hR.pure 5 (by decide) (by decide) (by decide) (fun x => by omega))
            rw [if_neg hj]
            by_cases e4 : j = 4
            · subst e4; exact x4.symm
            rw [if_neg e4]
          | 6, hoi =>
            cases hoi
            have x0 : X 0 = .int .i64 d := (h ⟨0, .data⟩ (by simp) (by rfl)).1
            have x1 : X 1 = .agg (memV N) := (h ⟨1, .data⟩ (by simp) (by rfl)).1
            have x5 : X 5 = .agg #[.int .i64 note, .int .i64 inst, .int .i64 vc, .int .i64 va, .int .i64 e, .int .i64 q] := (h ⟨5, .data⟩ (by simp) (by rfl)).1
            clear h
            refine wpOp_do rfl rfl ?_
            simp only [x0, x1, x5]
            go_simp
            go_at_call 10
            refine (pres_is N HN.out d note inst vc va e q O N2 c HO.out HN2.out HCC.out _).mono ?_
            rintro x w6 ⟨v, rfl, ho, hb⟩
            go_simp
            have hp : ∀ j, D j = true → lval d N (some ⟨b, off, none⟩) n cap k ⟨b, off + k * 6, none⟩ #[.int .i64 note, .int .i64 inst, .int .i64 vc, .int .i64 va, .int .i64 e, .int .i64 q] N2 c (v, p.2) j = lval d N (some ⟨b, off, none⟩) n cap k ⟨b, off + k * 6, none⟩ #[.int .i64 note, .int .i64 inst, .int .i64 vc, .int .i64 va, .int .i64 e, .int .i64 q] N2 c p j := fun j hj => lval_v (fun e => by rw [e, hd] at hj; cases hj) (fun e => by rw [e] at hj; rw [hR.cl.1 hj] at hd; cases hd) (fun e => by rw [e] at hj; rw [hR.cl.2.1 hj] at hd; cases hd) (fun e => by rw [e] at hj; rw [hR.cl.2.2.1 hj] at hd; cases hd)
            refine SteppedP.mk2 (v, p.2) (fun j => if j = 6 then .tuple #[v, .agg (memV N2), .int .i64 c] else if j = 0 then .int .i64 d else if j = 1 then .agg (memV N) else if j = 5 then .agg #[.int .i64 note, .int .i64 inst, .int .i64 vc, .int .i64 va, .int .i64 e, .int .i64 q] else X j) (fun j hj => ?_) rfl hp (hR.call ho hb)
            rw [if_neg hj]
            by_cases e0 : j = 0
            · subst e0; exact x0.symm
            rw [if_neg e0]
            by_cases e1 : j = 1
            · subst e1; exact x1.symm
            rw [if_neg e1]
            by_cases e5 : j = 5
            · subst e5; exact x5.symm
            rw [if_neg e5]
          | 7, hoi =>
            cases hoi
            have x6 : X 6 = .tuple #[p.1, .agg (memV N2), .int .i64 c] := (h ⟨6, .data⟩ (by simp) (by rfl)).1
            have d6 := (h ⟨6, .data⟩ (by simp) (by rfl)).2
            clear h
            refine wpOp_do rfl rfl ?_
            simp only [x6]
            go_simp
            refine SteppedP.mk2 p (fun j => if j = 7 then .tuple #[p.1, .agg (memV N2), .int .i64 c] else if j = 6 then .tuple #[p.1, .agg (memV N2), .int .i64 c] else X j) (fun j hj => ?_) rfl (fun _ _ => rfl) (hR.pure 7 (by decide) (by decide) (by decide) (fun _ => d6))
            rw [if_neg hj]
            by_cases e6 : j = 6
            · subst e6; exact x6.symm
            rw [if_neg e6]
          | 8, hoi =>
            cases hoi
            have x7 : X 7 = .tuple #[p.1, .agg (memV N2), .int .i64 c] := (h ⟨7, .data⟩ (by simp) (by rfl)).1
            have d7 := (h ⟨7, .data⟩ (by simp) (by rfl)).2
            clear h
            refine wpOp_do rfl rfl ?_
            simp only [x7]
            go_simp
            refine SteppedP.mk2 p (fun j => if j = 8 then p.1 else if j = 7 then .tuple #[p.1, .agg (memV N2), .int .i64 c] else X j) (fun j hj => ?_) rfl (fun _ _ => rfl) (hR.pure 8 (by decide) (by decide) (by decide) (fun _ => hR.cl.1 d7))
            rw [if_neg hj]
            by_cases e7 : j = 7
            · subst e7; exact x7.symm
            rw [if_neg e7]
          | 9, hoi =>
            cases hoi
            have x7 : X 7 = .tuple #[p.1, .agg (memV N2), .int .i64 c] := (h ⟨7, .data⟩ (by simp) (by rfl)).1
            clear h
            refine wpOp_do rfl rfl ?_
            simp only [x7]
            go_simp
            refine SteppedP.mk2 p (fun j => if j = 9 then .agg (memV N2) else if j = 7 then .tuple #[p.1, .agg (memV N2), .int .i64 c] else X j) (fun j hj => ?_) rfl (fun _ _ => rfl) (hR.pure 9 (by decide) (by decide) (by decide) (fun x => by omega))
            rw [if_neg hj]
            by_cases e7 : j = 7
            · subst e7; exact x7.symm
            rw [if_neg e7]
          | 10, hoi =>
            cases hoi
            have x7 : X 7 = .tuple #[p.1, .agg (memV N2), .int .i64 c] := (h ⟨7, .data⟩ (by simp) (by rfl)).1
            clear h
            refine wpOp_do rfl rfl ?_
            simp only [x7]
            go_simp
            refine SteppedP.mk2 p (fun j => if j = 10 then .int .i64 c else if j = 7 then .tuple #[p.1, .agg (memV N2), .int .i64 c] else X j) (fun j hj => ?_) rfl (fun _ _ => rfl) (hR.pure 10 (by decide) (by decide) (by decide) (fun x => by omega))
            rw [if_neg hj]
            by_cases e7 : j = 7
            · subst e7; exact x7.symm
            rw [if_neg e7]
          | 11, hoi =>
            cases hoi
            clear h
            refine wpOp_do rfl rfl ?_
            go_simp
            exact ⟨(p.1, w5.heap.size), rfl, (fun j hj => lval_g (fun e => by rw [e, hd] at hj; cases hj)), hR.alloc hd⟩
          | 12, hoi =>
            cases hoi
            have x8 : X 8 = p.1 := (h ⟨8, .data⟩ (by simp) (by rfl)).1
            have d6 := (h ⟨6, .chain⟩ (by simp) (by rfl)).2
            clear h
            refine wpOp_do rfl rfl ?_
            simp only [x8]
            go_simp
            refine SteppedP.mk2 p (fun j => if j = 12 then p.1 else if j = 8 then p.1 else X j) (fun j hj => ?_) rfl (fun _ _ => rfl) (hR.pure 12 (by decide) (by decide) (by decide) (fun _ => d6))
            rw [if_neg hj]
            by_cases e8 : j = 8
            · subst e8; exact x8.symm
            rw [if_neg e8]
          | 13, hoi =>
            cases hoi
            have x11 : X 11 = .pointer (some ⟨p.2, 0, none⟩) := (h ⟨11, .data⟩ (by simp) (by rfl)).1
            have x9 : X 9 = .agg (memV N2) := (h ⟨9, .data⟩ (by simp) (by rfl)).1
            have d11 := (h ⟨11, .data⟩ (by simp) (by rfl)).2
            clear h
            refine wpOp_do rfl rfl ?_
            simp only [x11, x9]
            refine wp_store_row 28 _ _ rfl p.2 (memV N2) rfl rfl 28 _ (hR.box d11).2 (by rw [memV_size HN3.out]; exact size28) (by split <;> first | rfl | (rw [memV_size HN3.out]; rfl)) (by rw [← Array.all_toList]; exact memV_ones _) ?_
            refine SteppedP.mk2 p (fun j => if j = 13 then undef else if j = 11 then .pointer (some ⟨p.2, 0, none⟩) else if j = 9 then .agg (memV N2) else X j) (fun j hj => ?_) rfl (fun _ _ => rfl) (hR.store d11)
            rw [if_neg hj]
            by_cases e11 : j = 11
            · subst e11; exact x11.symm
            rw [if_neg e11]
            by_cases e9 : j = 9
            · subst e9; exact x9.symm
            rw [if_neg e9]
          | 14, hoi =>
            cases hoi
            have x10 : X 10 = .int .i64 c := (h ⟨10, .data⟩ (by simp) (by rfl)).1
            clear h
            refine wpOp_do rfl rfl ?_
            simp only [x10]
            go_simp
            refine SteppedP.mk2 p (fun j => if j = 14 then .int .i64 c else if j = 10 then .int .i64 c else X j) (fun j hj => ?_) rfl (fun _ _ => rfl) (hR.pure 14 (by decide) (by decide) (by decide) (fun x => by omega))
            rw [if_neg hj]
            by_cases e10 : j = 10
            · subst e10; exact x10.symm
            rw [if_neg e10]
          | i + 15, hoi => simp at hoi
        · rintro D ⟨v5, g5⟩ w5 hall hR
          simp only [lval]
          have L4 := hid (Array.getElem?_eq_some_iff.1 HK4.out).1
          have HB5 := hid hR.b
          have HO5 := hid (hR.ops (hall 6 (by decide)))
          have HX5 : Hid (wr.heap.size ≤ g5 ∧ w5.heap[g5]? = some (.cells (memV N2) 28 (0, 0))) := hid (by have := hR.box (hall 11 (by decide)); rwa [if_pos (hall 13 (by decide))] at this)
          clear hR hall
          replace HK4 := hid ((HB5.out.block _ (Array.getElem?_eq_some_iff.1 HK4.out).1).trans HK4.out)
          have L7 := hid (Array.getElem?_eq_some_iff.1 HK7.out).1
          replace HK7 := hid ((HB5.out.block _ (Array.getElem?_eq_some_iff.1 HK7.out).1).trans HK7.out)
          have HWS := hid HWR.out.size
          replace HWR := hid (HWR.out.step HB5.out)
          go_upto_region 6 with (fail)
          refine wp_region_par (n := 15) (α := Value × Nat) (fun X => #[.int .i64 d, .agg (memV M), .slice (some ⟨b, off, none⟩) n cap, undef, .pointer (some ⟨g4, 0, none⟩), undef, u6, .pointer (some ⟨g7, 0, none⟩), .int .i64 (k : Int), v5, .pointer (some ⟨g5, 0, none⟩), .int .i64 c, X 12, X 11, X 14, .agg (memV M), .int .i64 (k : Int), .slice (some ⟨b, off, none⟩) n cap, .int .i64 (n : Int), .bool true, .bool true, .int .i64 (k : Int), .bool true, .bool true, u24, u25, .tuple #[v5, .agg (memV N2), .int .i64 c], .int .i64 d, .agg (memV N), .slice (some ⟨b, off, none⟩) n cap, .int .i64 (k : Int), .pointer (some ⟨b, off + k * 6, none⟩), .agg #[.int .i64 note, .int .i64 inst, .int .i64 vc, .int .i64 va, .int .i64 e, .int .i64 q], .tuple #[v5, .agg (memV N2), .int .i64 c], v5, .agg (memV N2), .int .i64 c, X 7, X 0, X 1, X 2, X 3, X 4, X 5, X 6, X 8, X 9, X 10, u48, u49, u50, u51, u52, u53, u54, u55, u56, u57, u58, u59, u60, u61, u62, u63, u64, u65, u66, u67, u68, u69, u70, undef]) (fun p => lval d N (some ⟨b, off, none⟩) n cap k ⟨b, off + k * 6, none⟩ #[.int .i64 note, .int .i64 inst, .int .i64 vc, .int .i64 va, .int .i64 e, .int .i64 q] N2 c p) (fun d p w => RR w5 O N2 d p w) (fun j => match j with | 0 => u38 | 1 => u39 | 2 => u40 | 3 => u41 | 4 => u42 | 5 => u43 | 6 => u44 | 7 => u37 | 8 => u45 | 9 => u46 | 10 => u47 | 11 => u13 | 12 => u12 | 14 => u14 | _ => undef) (undef, 0) (by kernel_rfl) rfl (by kernel_rfl) rfl (RR.start _ _ _ _) ?_ ?_ ?_
          · intro p X h
            simp only [h 0 (by decide), h 1 (by decide), h 2 (by decide), h 3 (by decide), h 4 (by decide), h 5 (by decide), h 6 (by decide), h 7 (by decide), h 8 (by decide), h 9 (by decide), h 10 (by decide), h 11 (by decide), h 12 (by decide), h 14 (by decide)]
          · intro i oi hoi D p X w5 hd h hR
            match i, hoi with
            | 0, hoi =>
              cases hoi
              clear h
              refine wpOp_do rfl rfl ?_
              go_simp
              exact ⟨p, rfl, (fun _ _ => rfl), (hR.pure 0 (by decide) (by decide) (by decide) (fun x => by omega))⟩
            | 2, hoi =>
              cases hoi
              clear h
              refine wpOp_do rfl rfl ?_
              go_simp
              exact ⟨p, rfl, (fun _ _ => rfl), (hR.pure 2 (by decide) (by decide) (by decide) (fun x => by omega))⟩
            | 3, hoi =>
              cases hoi
              clear h
              refine wpOp_do rfl rfl ?_
              go_simp
              exact ⟨p, rfl, (fun _ _ => rfl), (hR.pure 3 (by decide) (by decide) (by decide) (fun x => by omega))⟩
            | 1, hoi =>
              cases hoi
              clear h
              refine wpOp_do rfl rfl ?_
              refine wp_load_at 28 _ rfl g7 0 rfl (memV N) _ (row_M ((hR.b.block _ (Array.getElem?_eq_some_iff.1 HK7.out).1).trans HK7.out)) Tryz.underlying28 rfl (by rw [memV_size HN.out]; exact size28) ?_
              exact ⟨p, rfl, (fun _ _ => rfl), (hR.pure 1 (by decide) (by decide) (by decide) (fun x => by omega))⟩
            | 4, hoi =>
              cases hoi
              have x2 : X 2 = .slice (some ⟨b, off, none⟩) n cap := (h ⟨2, .data⟩ (by simp) (by rfl)).1
              have x3 : X 3 = .int .i64 (k : Int) := (h ⟨3, .data⟩ (by simp) (by rfl)).1
              clear h
              refine wpOp_do rfl rfl ?_
              simp only [x2, x3]
              go_simp
              refine SteppedP.mk2 p (fun j => if j = 4 then .pointer (some ⟨b, off + k * 6, none⟩) else if j = 2 then .slice (some ⟨b, off, none⟩) n cap else if j = 3 then .int .i64 (k : Int) else X j) (fun j hj => ?_) rfl (fun _ _ => rfl) (hR.pure 4 (by decide) (by decide) (by decide) (fun x => by omega))
              rw [if_neg hj]
              by_cases e2 : j = 2
              · subst e2; exact x2.symm
              rw [if_neg e2]
              by_cases e3 : j = 3
              · subst e3; exact x3.symm
              rw [if_neg e3]
            | 5, hoi =>
              cases hoi
              have x4 : X 4 = .pointer (some ⟨b, off + k * 6, none⟩) := (h ⟨4, .data⟩ (by simp) (by rfl)).1
              clear h
              refine wpOp_do rfl rfl ?_
              simp only [x4]
              refine wp_load_at 23 _ rfl b (off + k * 6) rfl #[.int .i64 note, .int .i64 inst, .int .i64 vc, .int .i64 va, .int .i64 e, .int .i64 q] _ (HC.out.below (HWR.out.step hR.b)) Tryz.underlying23 rfl (by kernel_rfl) ?_
              refine SteppedP.mk2 p (fun j => if j = 5 then .agg #[.int .i64 note, .int .i64 inst, .int .i64 vc, .int .i64 va, .int .i64 e, .int .i64 q] else if j = 4 then .pointer (some ⟨b, off + k * 6, none⟩) else X j) (fun j hj => ?_) rfl (fun _ _ => rfl) (hR.pure 5 (by decide) (by decide) (by decide) (fun x => by omega))
              rw [if_neg hj]
              by_cases e4 : j = 4
              · subst e4; exact x4.symm
              rw [if_neg e4]
            | 6, hoi =>
              cases hoi
              have x0 : X 0 = .int .i64 d := (h ⟨0, .data⟩ (by simp) (by rfl)).1
              have x1 : X 1 = .agg (memV N) := (h ⟨1, .data⟩ (by simp) (by rfl)).1
              have x5 : X 5 = .agg #[.int .i64 note, .int .i64 inst, .int .i64 vc, .int .i64 va, .int .i64 e, .int .i64 q] := (h ⟨5, .data⟩ (by simp) (by rfl)).1
              clear h
              refine wpOp_do rfl rfl ?_
              simp only [x0, x1, x5]
              go_simp
              go_at_call 11
              refine (rres_is N HN.out d note inst vc va e q O N2 c HO.out HN2.out HCC.out _).mono ?_
              rintro x w6 ⟨v, rfl, ho, hb⟩
              go_simp
              have hp : ∀ j, D j = true → lval d N (some ⟨b, off, none⟩) n cap k ⟨b, off + k * 6, none⟩ #[.int .i64 note, .int .i64 inst, .int .i64 vc, .int .i64 va, .int .i64 e, .int .i64 q] N2 c (v, p.2) j = lval d N (some ⟨b, off, none⟩) n cap k ⟨b, off + k * 6, none⟩ #[.int .i64 note, .int .i64 inst, .int .i64 vc, .int .i64 va, .int .i64 e, .int .i64 q] N2 c p j := fun j hj => lval_v (fun e => by rw [e, hd] at hj; cases hj) (fun e => by rw [e] at hj; rw [hR.cl.1 hj] at hd; cases hd) (fun e => by rw [e] at hj; rw [hR.cl.2.1 hj] at hd; cases hd) (fun e => by rw [e] at hj; rw [hR.cl.2.2.1 hj] at hd; cases hd)
              refine SteppedP.mk2 (v, p.2) (fun j => if j = 6 then .tuple #[v, .agg (memV N2), .int .i64 c] else if j = 0 then .int .i64 d else if j = 1 then .agg (memV N) else if j = 5 then .agg #[.int .i64 note, .int .i64 inst, .int .i64 vc, .int .i64 va, .int .i64 e, .int .i64 q] else X j) (fun j hj => ?_) rfl hp (hR.call ho hb)
              rw [if_neg hj]
              by_cases e0 : j = 0
              · subst e0; exact x0.symm
              rw [if_neg e0]
              by_cases e1 : j = 1
              · subst e1; exact x1.symm
              rw [if_neg e1]
              by_cases e5 : j = 5
              · subst e5; exact x5.symm
              rw [if_neg e5]
            | 7, hoi =>
              cases hoi
              have x6 : X 6 = .tuple #[p.1, .agg (memV N2), .int .i64 c] := (h ⟨6, .data⟩ (by simp) (by rfl)).1
              have d6 := (h ⟨6, .data⟩ (by simp) (by rfl)).2
              clear h
              refine wpOp_do rfl rfl ?_
              simp only [x6]
              go_simp
              refine SteppedP.mk2 p (fun j => if j = 7 then .tuple #[p.1, .agg (memV N2), .int .i64 c] else if j = 6 then .tuple #[p.1, .agg (memV N2), .int .i64 c] else X j) (fun j hj => ?_) rfl (fun _ _ => rfl) (hR.pure 7 (by decide) (by decide) (by decide) (fun _ => d6))
              rw [if_neg hj]
              by_cases e6 : j = 6
              · subst e6; exact x6.symm
              rw [if_neg e6]
            | 8, hoi =>
              cases hoi
              have x7 : X 7 = .tuple #[p.1, .agg (memV N2), .int .i64 c] := (h ⟨7, .data⟩ (by simp) (by rfl)).1
              have d7 := (h ⟨7, .data⟩ (by simp) (by rfl)).2
              clear h
              refine wpOp_do rfl rfl ?_
              simp only [x7]
              go_simp
              refine SteppedP.mk2 p (fun j => if j = 8 then p.1 else if j = 7 then .tuple #[p.1, .agg (memV N2), .int .i64 c] else X j) (fun j hj => ?_) rfl (fun _ _ => rfl) (hR.pure 8 (by decide) (by decide) (by decide) (fun _ => hR.cl.1 d7))
              rw [if_neg hj]
              by_cases e7 : j = 7
              · subst e7; exact x7.symm
              rw [if_neg e7]
            | 9, hoi =>
              cases hoi
              have x7 : X 7 = .tuple #[p.1, .agg (memV N2), .int .i64 c] := (h ⟨7, .data⟩ (by simp) (by rfl)).1
              clear h
              refine wpOp_do rfl rfl ?_
              simp only [x7]
              go_simp
              refine SteppedP.mk2 p (fun j => if j = 9 then .agg (memV N2) else if j = 7 then .tuple #[p.1, .agg (memV N2), .int .i64 c] else X j) (fun j hj => ?_) rfl (fun _ _ => rfl) (hR.pure 9 (by decide) (by decide) (by decide) (fun x => by omega))
              rw [if_neg hj]
              by_cases e7 : j = 7
              · subst e7; exact x7.symm
              rw [if_neg e7]
            | 10, hoi =>
              cases hoi
              have x7 : X 7 = .tuple #[p.1, .agg (memV N2), .int .i64 c] := (h ⟨7, .data⟩ (by simp) (by rfl)).1
              clear h
              refine wpOp_do rfl rfl ?_
              simp only [x7]
              go_simp
              refine SteppedP.mk2 p (fun j => if j = 10 then .int .i64 c else if j = 7 then .tuple #[p.1, .agg (memV N2), .int .i64 c] else X j) (fun j hj => ?_) rfl (fun _ _ => rfl) (hR.pure 10 (by decide) (by decide) (by decide) (fun x => by omega))
              rw [if_neg hj]
              by_cases e7 : j = 7
              · subst e7; exact x7.symm
              rw [if_neg e7]
            | 11, hoi =>
              cases hoi
              clear h
              refine wpOp_do rfl rfl ?_
              go_simp
              exact ⟨(p.1, w5.heap.size), rfl, (fun j hj => lval_g (fun e => by rw [e, hd] at hj; cases hj)), hR.alloc hd⟩
            | 12, hoi =>
              cases hoi
              have x8 : X 8 = p.1 := (h ⟨8, .data⟩ (by simp) (by rfl)).1
              have d6 := (h ⟨6, .chain⟩ (by simp) (by rfl)).2
              clear h
              refine wpOp_do rfl rfl ?_
              simp only [x8]
              go_simp
              refine SteppedP.mk2 p (fun j => if j = 12 then p.1 else if j = 8 then p.1 else X j) (fun j hj => ?_) rfl (fun _ _ => rfl) (hR.pure 12 (by decide) (by decide) (by decide) (fun _ => d6))
              rw [if_neg hj]
              by_cases e8 : j = 8
              · subst e8; exact x8.symm
              rw [if_neg e8]
            | 13, hoi =>
              cases hoi
              have x11 : X 11 = .pointer (some ⟨p.2, 0, none⟩) := (h ⟨11, .data⟩ (by simp) (by rfl)).1
              have x9 : X 9 = .agg (memV N2) := (h ⟨9, .data⟩ (by simp) (by rfl)).1
              have d11 := (h ⟨11, .data⟩ (by simp) (by rfl)).2
              clear h
              refine wpOp_do rfl rfl ?_
              simp only [x11, x9]
              refine wp_store_row 28 _ _ rfl p.2 (memV N2) rfl rfl 28 _ (hR.box d11).2 (by rw [memV_size HN3.out]; exact size28) (by split <;> first | rfl | (rw [memV_size HN3.out]; rfl)) (by rw [← Array.all_toList]; exact memV_ones _) ?_
              refine SteppedP.mk2 p (fun j => if j = 13 then undef else if j = 11 then .pointer (some ⟨p.2, 0, none⟩) else if j = 9 then .agg (memV N2) else X j) (fun j hj => ?_) rfl (fun _ _ => rfl) (hR.store d11)
              rw [if_neg hj]
              by_cases e11 : j = 11
              · subst e11; exact x11.symm
              rw [if_neg e11]
              by_cases e9 : j = 9
              · subst e9; exact x9.symm
              rw [if_neg e9]
            | 14, hoi =>
              cases hoi
              have x10 : X 10 = .int .i64 c := (h ⟨10, .data⟩ (by simp) (by rfl)).1
              clear h
              refine wpOp_do rfl rfl ?_
              simp only [x10]
              go_simp
              refine SteppedP.mk2 p (fun j => if j = 14 then .int .i64 c else if j = 10 then .int .i64 c else X j) (fun j hj => ?_) rfl (fun _ _ => rfl) (hR.pure 14 (by decide) (by decide) (by decide) (fun x => by omega))
              rw [if_neg hj]
              by_cases e10 : j = 10
              · subst e10; exact x10.symm
              rw [if_neg e10]
            | i + 15, hoi => simp at hoi
          · rintro D ⟨v6, g6⟩ w6 hall hR
            simp only [lval]
            have HB6 := hid hR.b
            have HO6 := hid (OpsAt.own (hR.ops (hall 6 (by decide))))
            have HX6 : Hid (w5.heap.size ≤ g6 ∧ w6.heap[g6]? = some (.cells (memV N2) 28 (0, 0))) := hid (by have := hR.box (hall 11 (by decide)); rwa [if_pos (hall 13 (by decide))] at this)
            clear hR hall
            replace HO5 := hid ((OpsAt.own HO5.out).keep HB6.out)
            have HY5 := hid ((HB6.out.block _ (Array.getElem?_eq_some_iff.1 HX5.out.2).1).trans HX5.out.2)
            have L5 := hid (Array.getElem?_eq_some_iff.1 HX5.out.2).1
            replace HK4 := hid ((HB6.out.block _ (Array.getElem?_eq_some_iff.1 HK4.out).1).trans HK4.out)
            replace HK7 := hid ((HB6.out.block _ (Array.getElem?_eq_some_iff.1 HK7.out).1).trans HK7.out)
            replace HWR := hid (HWR.out.step HB6.out)
            have RA := hid (row_M HY5.out)
            have RB := hid (row_M HX6.out.2)
            have S1 : Hid (∀ w', OpsAt w' v5 O → OpsAt w' v6 O → Calls Tryz.prog 12 #[v5, v6] w' fun e w'' => e = .returned (.bool true) ∧ ∃ m, w'' = w'.drewN m) := hid (fun w' h1 h2 => by have := same_any _ _ _ _ w' h1 h2 (by have := HO3.out; omega); rw [decide_eq_true rfl] at this; exact this)
            obtain ⟨A5, cap5, e5, r5⟩ := id HO5.out
            subst e5
            clear r5
            have hlen3 : ¬ (3 : Int) < (O.length : Int) := by have := HO3.out; omega
            have hnn := neq_same28 N2 HN3.out
            have hcc : (c != c) = false := by simp
            by_cases hc0 : c = 0
            · subst hc0
              go_upto_region 10 with (first | (refine wpList_load_g (by rfl) 28 _ rfl g5 0 rfl (memV N2) _ RA.out Tryz.underlying28 rfl (by rw [memV_size HN3.out]; exact size28) ?_) | (refine wpList_load_g (by rfl) 28 _ rfl g6 0 rfl (memV N2) _ RB.out Tryz.underlying28 rfl (by rw [memV_size HN3.out]; exact size28) ?_) | (go_at_call 12; refine (S1.out _ HO5.out HO6.out).mono ?_; rintro x w7 ⟨rfl, m, hm⟩; replace RA : Hid (RowAt w7 g5 0 (memV N2).toList) := hid (by rw [hm]; exact RA.out); replace RB : Hid (RowAt w7 g6 0 (memV N2).toList) := hid (by rw [hm]; exact RB.out); replace HK4 : Hid (w7.heap[g4]? = some (.cells (memV N) 28 (0, 0))) := hid (by rw [hm]; exact HK4.out); replace HK7 : Hid (w7.heap[g7]? = some (.cells (memV N) 28 (0, 0))) := hid (by rw [hm]; exact HK7.out); replace HWR : Hid (BelowW w w7) := hid (by rw [hm]; exact below_drewN HWR.out m); replace HY5 : Hid (w7.heap[g5]? = some (.cells (memV N2) 28 (0, 0))) := hid (by rw [hm]; exact HY5.out); have HY6 : Hid (w7.heap[g6]? = some (.cells (memV N2) 28 (0, 0))) := hid (by rw [hm]; exact HX6.out.2); clear hm) | fail)
              have HNE1 := hid (show g4 ≠ g7 ∧ g5 ≠ g4 ∧ g5 ≠ g7 ∧ g6 ≠ g4 ∧ g6 ≠ g7 by have := HNE.out; have := L7.out; have := L4.out; have := HX5.out.1; have := HX6.out.1; have := HB5.out.size; omega)
              refine wp_region_par (n := 4) (α := Unit) (fun X => #[.int .i64 d, .agg (memV M), .slice (some ⟨b, off, none⟩) n cap, undef, .pointer (some ⟨g4, 0, none⟩), undef, u6, .pointer (some ⟨g7, 0, none⟩), .int .i64 (k : Int), .slice A5 O.length cap5, .pointer (some ⟨g5, 0, none⟩), .int .i64 0, v6, .pointer (some ⟨g6, 0, none⟩), .int .i64 0, .agg (memV M), .int .i64 (k : Int), .slice (some ⟨b, off, none⟩) n cap, .int .i64 (n : Int), .bool true, .bool true, .int .i64 (k : Int), .bool true, .bool true, u24, u25, .tuple #[.slice A5 O.length cap5, .agg (memV N2), .int .i64 0], .int .i64 d, .agg (memV N), .slice (some ⟨b, off, none⟩) n cap, .int .i64 (k : Int), .pointer (some ⟨b, off + k * 6, none⟩), .agg #[.int .i64 note, .int .i64 inst, .int .i64 vc, .int .i64 va, .int .i64 e, .int .i64 q], .tuple #[.slice A5 O.length cap5, .agg (memV N2), .int .i64 0], .slice A5 O.length cap5, .agg (memV N2), .int .i64 0, .tuple #[v6, .agg (memV N2), .int .i64 0], .int .i64 d, .agg (memV N), .slice (some ⟨b, off, none⟩) n cap, .int .i64 (k : Int), .pointer (some ⟨b, off + k * 6, none⟩), .agg #[.int .i64 note, .int .i64 inst, .int .i64 vc, .int .i64 va, .int .i64 e, .int .i64 q], .tuple #[v6, .agg (memV N2), .int .i64 0], v6, .agg (memV N2), .int .i64 0, .int .i64 0, .int .i64 0, .bool false, .bool false, .slice A5 O.length cap5, v6, .bool true, .bool false, .bool false, .bool false, .agg (memV N2), .agg (memV N2), .bool false, .bool false, .bool false, .slice A5 O.length cap5, .int .i64 (O.length : Int), .bool (decide (3 < (O.length : Int))), .bool (decide (3 < (O.length : Int))), .int .i64 0, .bool true, X 0, X 1, undef]) (fun p => uval N2 p) (fun D _ wz => RS w g4 g7 g5 g6 N N2 D wz) (fun j => match j with | 0 => u69 | 1 => u70 | _ => undef) () (by kernel_rfl) rfl (by kernel_rfl) rfl ⟨⟨HWR.out.os, HWR.out.tape, HWR.out.output, HWR.out.size, HWR.out.block⟩, HY5.out, HY6.out, HK4.out, HK7.out, ⟨HG4.out, HG7.out⟩, HNE1.out⟩ ?_ ?_ ?_
              · intro p X h
                simp only [h 0 (by decide), h 1 (by decide)]
              · intro i oi hoi D p X wz hd h hR
                match i, hoi with
                | 0, hoi =>
                  cases hoi
                  clear h
                  refine wpOp_do rfl rfl ?_
                  refine wp_load_at 28 _ rfl g5 0 rfl (memV N2) _ (row_M hR.a) Tryz.underlying28 rfl (by rw [memV_size HN3.out]; exact size28) ?_
                  exact ⟨p, rfl, (fun _ _ => rfl), hR.pure 0 (by decide) (by decide)⟩
                | 1, hoi =>
                  cases hoi
                  clear h
                  refine wpOp_do rfl rfl ?_
                  refine wp_load_at 28 _ rfl g6 0 rfl (memV N2) _ (row_M hR.c) Tryz.underlying28 rfl (by rw [memV_size HN3.out]; exact size28) ?_
                  exact ⟨p, rfl, (fun _ _ => rfl), hR.pure 1 (by decide) (by decide)⟩
                | 2, hoi =>
                  cases hoi
                  have x0 : X 0 = .agg (memV N2) := (h ⟨0, .data⟩ (by simp) (by rfl)).1
                  clear h
                  refine wpOp_do rfl rfl ?_
                  simp only [x0]
                  refine wp_store_row 28 _ _ rfl g4 (memV N2) rfl rfl 28 _ hR.h4 (by rw [memV_size HN3.out]; exact size28) (by split <;> first | rfl | (rw [memV_size HN3.out, memV_size HN.out])) (by rw [← Array.all_toList]; exact memV_ones _) ?_
                  refine SteppedP.mk2 p (fun j => if j = 2 then undef else if j = 0 then .agg (memV N2) else X j) (fun j hj => ?_) rfl (fun _ _ => rfl) hR.put4
                  rw [if_neg hj]
                  by_cases e0 : j = 0
                  · subst e0; exact x0.symm
                  rw [if_neg e0]
                | 3, hoi =>
                  cases hoi
                  have x1 : X 1 = .agg (memV N2) := (h ⟨1, .data⟩ (by simp) (by rfl)).1
                  clear h
                  refine wpOp_do rfl rfl ?_
                  simp only [x1]
                  refine wp_store_row 28 _ _ rfl g7 (memV N2) rfl rfl 28 _ hR.h7 (by rw [memV_size HN3.out]; exact size28) (by split <;> first | rfl | (rw [memV_size HN3.out, memV_size HN.out])) (by rw [← Array.all_toList]; exact memV_ones _) ?_
                  refine SteppedP.mk2 p (fun j => if j = 3 then undef else if j = 1 then .agg (memV N2) else X j) (fun j hj => ?_) rfl (fun _ _ => rfl) hR.put7
                  rw [if_neg hj]
                  by_cases e0 : j = 1
                  · subst e0; exact x1.symm
                  rw [if_neg e0]
                | i + 4, hoi => simp at hoi
              · rintro D ⟨⟩ wz hall hR
                simp only [uval]
                have K4 : Hid (wz.heap[g4]? = some (.cells (memV N2) 28 (0, 0))) := hid (by have := hR.h4; rwa [if_pos (hall 2 (by decide))] at this)
                have K7 : Hid (wz.heap[g7]? = some (.cells (memV N2) 28 (0, 0))) := hid (by have := hR.h7; rwa [if_pos (hall 3 (by decide))] at this)
                have KW := hid hR.b
                clear hR hall
                go_wp2
                go_roundw
                case rel => exact ⟨k + 1, N2, by omega, by go_num, HN3, K4, K7, KW⟩
                case measure => simp [intOf]; omega
            · have tc : (c == 0) = false := beq_false hc0
              clear hc0
              go_wp2_with (first | (refine wpList_load_g (by rfl) 28 _ rfl g5 0 rfl (memV N2) _ RA.out Tryz.underlying28 rfl (by rw [memV_size HN3.out]; exact size28) ?_) | (refine wpList_load_g (by rfl) 28 _ rfl g6 0 rfl (memV N2) _ RB.out Tryz.underlying28 rfl (by rw [memV_size HN3.out]; exact size28) ?_) | (go_at_call 12; refine (S1.out _ HO5.out HO6.out).mono ?_; rintro x w7 ⟨rfl, m, hm⟩; replace RA : Hid (RowAt w7 g5 0 (memV N2).toList) := hid (by rw [hm]; exact RA.out); replace RB : Hid (RowAt w7 g6 0 (memV N2).toList) := hid (by rw [hm]; exact RB.out); replace HK4 : Hid (w7.heap[g4]? = some (.cells (memV N) 28 (0, 0))) := hid (by rw [hm]; exact HK4.out); replace HK7 : Hid (w7.heap[g7]? = some (.cells (memV N) 28 (0, 0))) := hid (by rw [hm]; exact HK7.out); replace HWR : Hid (BelowW w w7) := hid (by rw [hm]; exact below_drewN HWR.out m); replace HY5 : Hid (w7.heap[g5]? = some (.cells (memV N2) 28 (0, 0))) := hid (by rw [hm]; exact HY5.out); have HY6 : Hid (w7.heap[g6]? = some (.cells (memV N2) 28 (0, 0))) := hid (by rw [hm]; exact HX6.out.2); clear hm) | fail)
              go_roundw
              case rel => exact ⟨k + 1, N, by omega, by go_num, HN, HK4, HK7, HWR⟩
              case measure => simp [intOf]; omega
      · have h1001 : ¬ (k : Int) < 100 := by omega
        have hlt1 : (k : Int) < (n : Int) := by omega
        clear h100 hlt HK4 HK7
        go_wp2_with (go_at_call 9; refine (awake_any _).mono ?_; rintro x w9 ⟨rfl, hb9⟩; have BF := hid (HWR.out.step hb9); clear hb9)
        go_ret
        exact ⟨rfl, BF⟩
    · have hlt1 : ¬ (k : Int) < (n : Int) := by omega
      clear hlt HK4 HK7
      go_wp2_with (go_at_call 9; refine (awake_any _).mono ?_; rintro x w9 ⟨rfl, hb9⟩; have BF := hid (HWR.out.step hb9); clear hb9)
      go_ret
      exact ⟨rfl, BF⟩
end Go.Proofs.YtkpielgdfahanaaGreat
