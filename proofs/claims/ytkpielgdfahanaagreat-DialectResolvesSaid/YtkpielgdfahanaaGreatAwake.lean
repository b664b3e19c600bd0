/- awake: the chapter's examples hold. -/
import Derived.Test.YtkpielgdfahanaaGreatSame
import Derived.Deep.Cut
namespace Go.Proofs.YtkpielgdfahanaaGreat
open Go.RowKit
set_option maxRecDepth 100000 in
theorem ex1 : resO 2 0 0 0 0 14 15 zeroM = [(12, 0, 15)] ∧ resC 2 0 0 0 0 14 15 zeroM = 0 := by constructor <;> kernel_rfl
set_option maxRecDepth 100000 in
theorem ex2 : resC 3 0 0 0 0 2 5 zeroM = 0 := by kernel_rfl
set_option maxRecDepth 100000 in
theorem ex3 : resO 3 0 0 0 0 2 0 (resM 3 0 0 0 0 2 5 zeroM) = [(2, 5, 0)] ∧ resC 3 0 0 0 0 2 0 (resM 3 0 0 0 0 2 5 zeroM) = 0 := by constructor <;> kernel_rfl
/-- What a Resolve hands back, to be gone on with. -/
theorem Res.ops {O : List Opn} {M : List Int} {c : Int} {w : World} {e : Ending} {w' : World} (h : Res O M c w e w') : ∃ v, e = .returned (.tuple #[v, .agg (memV M), .int .i64 c]) ∧ OpsAt w' v O ∧ BelowW w w' := by
  obtain ⟨v, h1, h2, h3⟩ := h
  exact ⟨v, h1, OpsAt.own h2, h3⟩
def bestM : List Int := resM 3 0 0 0 0 2 5 zeroM
theorem bestM_len : bestM.length = 26 := resM_len 3 0 0 0 0 2 5 zeroM_len
theorem aw1 (w : World) : Calls Tryz.prog 10 #[.int .i64 2, .agg (memV zeroM), .agg #[.int .i64 0, .int .i64 0, .int .i64 0, .int .i64 0, .int .i64 14, .int .i64 15]] w fun e w' => ∃ v M, e = .returned (.tuple #[v, .agg (memV M), .int .i64 0]) ∧ M.length = 26 ∧ OpsAt w' v [(12, 0, 15)] ∧ BelowW w w' := by
  have h := pres_any zeroM zeroM_len 2 0 0 0 0 14 15 w
  rw [ex1.1, ex1.2] at h
  exact h.mono fun _ _ k => by obtain ⟨v, h1, h2, h3⟩ := k.ops; exact ⟨v, _, h1, resM_len _ _ _ _ _ _ _ zeroM_len, h2, h3⟩
theorem aw2 (w : World) : Calls Tryz.prog 10 #[.int .i64 3, .agg (memV zeroM), .agg #[.int .i64 0, .int .i64 0, .int .i64 0, .int .i64 0, .int .i64 2, .int .i64 5]] w fun e w' => ∃ v, e = .returned (.tuple #[v, .agg (memV bestM), .int .i64 0]) ∧ BelowW w w' := by
  have h := pres_any zeroM zeroM_len 3 0 0 0 0 2 5 w
  rw [ex2] at h
  exact h.mono fun _ _ k => by obtain ⟨v, h1, h2, h3⟩ := k.ops; exact ⟨v, h1, h3⟩
theorem aw3 (w : World) : Calls Tryz.prog 10 #[.int .i64 3, .agg (memV bestM), .agg #[.int .i64 0, .int .i64 0, .int .i64 0, .int .i64 0, .int .i64 2, .int .i64 0]] w fun e w' => ∃ v M, e = .returned (.tuple #[v, .agg (memV M), .int .i64 0]) ∧ M.length = 26 ∧ OpsAt w' v [(2, 5, 0)] ∧ BelowW w w' := by
  have h := pres_any bestM bestM_len 3 0 0 0 0 2 0 w
  unfold bestM at h
  rw [ex3.1, ex3.2] at h
  exact h.mono fun _ _ k => by obtain ⟨v, h1, h2, h3⟩ := k.ops; exact ⟨v, _, h1, resM_len _ _ _ _ _ _ _ bestM_len, h2, h3⟩
theorem OpsAt.one (w : World) (a b c : Int) : OpsAt (w.alloc (.cells #[.int .i64 a, .int .i64 b, .int .i64 c] 50)) (.slice (some ⟨w.heap.size, 0, none⟩) 1 1) [(a, b, c)] :=
  ⟨_, 1, rfl, fun k hk => by
    have : k = 0 := by simpa using hk
    subst this
    exact ⟨_, 0, rfl, by simp [opN], by simp [opN], by simp [opN]⟩⟩
theorem BelowW.refl (w : World) : BelowW w w := Below.refl _ _
set_option maxHeartbeats 4000000 in
set_option maxRecDepth 100000 in
theorem awake_any (w : World) : Calls Tryz.prog 9 #[] w fun e w' => e = .returned (.bool true) ∧ BelowW w w' := by
  go_enter Tryz.func9, Tryz.ntmps9
  go_wp2_with fail
  go_at_call 10
  refine (aw1 w).mono ?_
  rintro e w1 ⟨v1, M1, rfl, hl1, ho1, hb1⟩
  have L1 := hid hl1
  have O1 := hid (ho1.keep (below1 w1 (.cells (memV M1) 28)))
  have B1 := hid (hb1.step (below1 w1 (.cells (memV M1) 28)))
  clear hl1 ho1 hb1
  go_upto_region 2 with (refine wpList_store_new rfl 28 _ _ rfl (memV zeroM) (memV M1) rfl rfl (by rw [memV_size L1.out]; exact size28) (by rw [memV_size L1.out]; rfl) (memV_ones _) ?_)
  generalize w1.alloc (.cells (memV M1) 28) = w2 at *
  go_wp2_with fail
  go_at_call 10
  refine (aw2 w2).mono ?_
  rintro e w3 ⟨v2, rfl, hb2⟩
  have O2 := hid ((O1.out.keep hb2).keep (below1 w3 (.cells (memV bestM) 28)))
  have B2 := hid ((B1.out.step hb2).step (below1 w3 (.cells (memV bestM) 28)))
  have HN := hid (heap_alloc_new w3 (.cells (memV bestM) 28))
  clear hb2 O1 B1
  go_upto_region 3 with (refine wpList_store_new rfl 28 _ _ rfl (memV zeroM) (memV bestM) rfl rfl (by rw [memV_size bestM_len]; exact size28) (by rw [memV_size bestM_len]; rfl) (memV_ones _) ?_)
  generalize w3.alloc (.cells (memV bestM) 28) = w4 at *
  generalize w3.heap.size = g4 at *
  have HR := hid (row_M HN.out)
  go_wp2_with (refine wpList_load_at rfl 28 _ rfl g4 0 rfl (memV bestM) _ HR.out Tryz.underlying28 rfl (by rw [memV_size bestM_len]; exact size28) ?_)
  go_at_call 10
  refine (aw3 w4).mono ?_
  rintro e w5 ⟨v3, M3, rfl, hl3, ho3, hb3⟩
  have L3 := hid hl3
  have O3 := hid (ho3.keep (below1 w5 (.cells (memV M3) 28)))
  have O4 := hid ((O2.out.keep hb3).keep (below1 w5 (.cells (memV M3) 28)))
  have B3 := hid ((B2.out.step hb3).step (below1 w5 (.cells (memV M3) 28)))
  clear hb3 O2 B2 HN HR hl3 ho3
  go_upto_region 4 with (refine wpList_store_new rfl 28 _ _ rfl (memV zeroM) (memV M3) rfl rfl (by rw [memV_size L3.out]; exact size28) (by rw [memV_size L3.out]; rfl) (memV_ones _) ?_)
  generalize w5.alloc (.cells (memV M3) 28) = w6 at *
  generalize w5.heap.size = g6 at *
  go_wp2_with fail
  have S1 := hid (same_any _ _ _ _ (w6.alloc (.cells #[.int .i64 12, .int .i64 0, .int .i64 15] 50)) (O4.out.keep (below1 _ _)) (OpsAt.one w6 12 0 15) (by decide))
  have O5 := hid (O3.out.keep (below1 w6 (.cells #[.int .i64 12, .int .i64 0, .int .i64 15] 50)))
  have B4 := hid (B3.out.step (below1 w6 (.cells #[.int .i64 12, .int .i64 0, .int .i64 15] 50)))
  go_at_call 12
  refine S1.out.mono ?_
  rintro e w7 ⟨rfl, m7, hm7⟩
  have hw7 : BelowW w w7 := by rw [hm7]; exact below_drewN B4.out m7
  have O6 : OpsAt w7 v3 [(2, 5, 0)] := by rw [hm7]; exact O5.out
  have B5 := hid hw7
  have O7 := hid O6
  clear hm7 hw7 O6 S1 O5 B4 B3 O3 O4
  go_wp2_with fail
  have S2 := hid (same_any _ _ _ _ (w7.alloc (.cells #[.int .i64 2, .int .i64 5, .int .i64 0] 50)) (O7.out.keep (below1 _ _)) (OpsAt.one w7 2 5 0) (by decide))
  have B6 := hid (B5.out.step (below1 w7 (.cells #[.int .i64 2, .int .i64 5, .int .i64 0] 50)))
  go_at_call 12
  refine S2.out.mono ?_
  rintro e w8 ⟨rfl, m8, hm8⟩
  have B7 : Hid (BelowW w w8) := hid (by rw [hm8]; exact below_drewN B6.out m8)
  clear hm8 S2 B6 B5 O7
  go_wp2
  go_ret
  exact ⟨rfl, B7⟩
end Go.Proofs.YtkpielgdfahanaaGreat
