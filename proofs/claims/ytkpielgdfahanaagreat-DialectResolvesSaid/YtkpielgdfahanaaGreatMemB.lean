/- Which memories are valid: validMemory and the reference's remembered. -/
import Derived.Test.YtkpielgdfahanaaGreatAsked2
import Derived.Test.YtkpielgdfahanaaGreatNoted
namespace Go.Proofs.YtkpielgdfahanaaGreat
open Go.RowKit Go.Maps
/-- A memory is valid. -/
def slotsB (M : List Int) : Bool := (List.range 24).all fun k => inr (M.getD k 0) 0 255
def memB (M : List Int) : Bool := slotsB M && inr (M.getD 24 0) 0 36 && inr (M.getD 25 0) 0 255
theorem slotsB_iff (M : List Int) : slotsB M = true ↔ ∀ k, k < 24 → 0 ≤ M.getD k 0 ∧ M.getD k 0 ≤ 255 := by
  unfold slotsB
  rw [List.all_eq_true]
  constructor
  · intro h k hk
    exact (inr_iff _ _ _).1 (h k (List.mem_range.2 hk))
  · intro h k hk
    exact (inr_iff _ _ _).2 (h k (List.mem_range.1 hk))
theorem memB_ok {M : List Int} (hM : M.length = 26) (h : memB M = true) : MemOk M := by
  unfold memB at h
  simp only [Bool.and_eq_true] at h
  exact ⟨hM, (slotsB_iff M).1 h.1.1, (inr_iff _ _ _).1 h.1.2, (inr_iff _ _ _).1 h.2⟩
theorem memB_no {M : List Int} {k : Nat} (hk : k < 24) (h : ¬ (0 ≤ M.getD k 0 ∧ M.getD k 0 ≤ 255)) : memB M = false := by
  have : slotsB M = false := by
    cases e : slotsB M with
    | false => rfl
    | true => exact absurd ((slotsB_iff M).1 e k hk) h
  unfold memB
  rw [this]; rfl
theorem memB_last {M : List Int} (h : ∀ k, k < 24 → 0 ≤ M.getD k 0 ∧ M.getD k 0 ≤ 255) : memB M = (inr (M.getD 24 0) 0 36 && inr (M.getD 25 0) 0 255) := by
  unfold memB
  rw [(slotsB_iff M).2 h, Bool.true_and]
def slotV (M : List Int) : Array Value := ((M.take 24).map (Value.int .i64)).toArray
theorem slotV_size {M : List Int} (hM : M.length = 26) : (slotV M).size = 24 := by simp [slotV, hM]
theorem run_index26 (M : List Int) (hM : M.length = 26) (k : Nat) (hk : k < 24) (w : World) : (Instr.index 26 (.agg (slotV M)) (.int .i64 k)).run Tryz.prog w = .ok (.int .i64 (M.getD k 0)) w := by
  have hs : (sizeOf 3).run Tryz.prog w = .ok 1 w := by kernel_rfl
  have h0 : (0 : Int) ≤ (k : Int) ∧ (k : Int) < 24 := by omega
  have h : ((M.take 24).map (Value.int .i64))[k]? = some (.int .i64 (M.getD k 0)) := by
    rw [List.getElem?_map, List.getElem?_take, if_pos hk, List.getD_eq_getElem?_getD, List.getElem?_eq_getElem (by omega)]
    rfl
  unfold Instr.index slotV
  simp [Sem.run_bind, asIntOf, run_underlying Tryz.underlying26, h0, hs, part]
  rw [List.map_take] at h
  rw [if_pos hk, h, List.getD_eq_getElem?_getD]
  rfl
theorem mem_cell {w : World} {g : Nat} {M : List Int} (hM : M.length = 26) (h : w.heap[g]? = some (.cells (memV M) 28 (0, 0))) {k : Nat} (hk : k < 26) : w.cell? ⟨g, k, none⟩ = some (.int .i64 (M.getD k 0)) := by
  rw [cell_of_row w g k _ _ _ h]
  unfold memV
  rw [List.getElem?_toArray, List.getElem?_map, List.getD_eq_getElem?_getD, List.getElem?_eq_getElem (by omega)]
  rfl
theorem mem_row {w : World} {g : Nat} {M : List Int} (hM : M.length = 26) (h : w.heap[g]? = some (.cells (memV M) 28 (0, 0))) : RowAt w g 0 (slotV M).toList := fun j v hj => by
  have hj24 : j < 24 := by
    have := (List.getElem?_eq_some_iff.1 hj).1
    have e := slotV_size hM
    simp at this
    omega
  rw [Nat.zero_add, mem_cell hM h (by omega)]
  unfold slotV at hj
  rw [List.toList_toArray, List.getElem?_map, List.getElem?_take, if_pos hj24, List.getElem?_eq_getElem (by omega)] at hj
  rw [List.getD_eq_getElem?_getD, List.getElem?_eq_getElem (by omega)]
  exact hj
theorem inr_f {n lo hi : Int} (h : ¬ (lo ≤ n ∧ n ≤ hi)) : inr n lo hi = false := by
  cases e : inr n lo hi with
  | false => rfl
  | true => exact absurd ((inr_iff _ _ _).1 e) h
set_option maxHeartbeats 4000000 in
set_option maxRecDepth 100000 in
theorem pmem_any (M : List Int) (hM : M.length = 26) (w : World) : Calls Tryz.prog 37 #[.agg (memV M)] w fun x w' => x = .returned (.bool (memB M)) ∧ BelowW w w' := by
  have HM := hid hM
  have HB : BelowW w (w.alloc (.cells (memV M) 28)) := below1 w _
  have HH := hid (heap_alloc_new w (.cells (memV M) 28))
  clear hM
  go_enter Tryz.func37, Tryz.ntmps37
  go_upto_region 1 with (fail)
  generalize w.alloc (.cells (memV M) 28) = w1 at *
  generalize w.heap.size = g at *
  have q24 := mem_cell HM.out HH.out (k := 24) (by omega)
  have q25 := mem_cell HM.out HH.out (k := 25) (by omega)
  have HR := hid (mem_row HM.out HH.out)
  go_wp2_with (refine wpList_load_at rfl 26 _ rfl g 0 rfl (slotV M) _ HR.out Tryz.underlying26 rfl (by rw [slotV_size HM.out]; kernel_rfl) ?_)
  go_loop [7] (fun i => ∃ k : Nat, k ≤ 24 ∧ i = .int .i64 k ∧ Hid (∀ j, j < k → 0 ≤ M.getD j 0 ∧ M.getD j 0 ≤ 255)) (fun i => 24 - (intOf i).toNat)
  case atStart => exact ⟨0, Nat.zero_le _, rfl, hid (fun j hj => by omega)⟩
  case round =>
    obtain ⟨k, hk, rfl, HJ⟩ := hrel
    by_cases hlt : k < 24
    · have hlt1 : (k : Int) < 24 := by omega
      have hk0 : (0 : Int) ≤ (k : Int) := by omega
      have hix := run_index26 M HM.out k hlt w1
      have HV : Hid (M.getD k 0 = M.getD k 0) := hid rfl
      by_cases h0 : M.getD k 0 < 0
      · have E : Hid (memB M = false) := hid (memB_no hlt (by omega))
        have b0 : decide (M.getD k 0 < 0) = true := decide_eq_true h0
        clear HJ HM
        generalize M.getD k 0 = x at *
        generalize M.getD 24 0 = E0 at *
        generalize M.getD 25 0 = P0 at *
        go_wp2
        go_ret
        exact ⟨by rw [E.out]; rfl, HB⟩
      · have b0 : decide (M.getD k 0 < 0) = false := decide_eq_false h0
        by_cases h1 : 255 < M.getD k 0
        · have E : Hid (memB M = false) := hid (memB_no hlt (by omega))
          have b1 : decide (255 < M.getD k 0) = true := decide_eq_true h1
          clear HJ HM
          generalize M.getD k 0 = x at *
          generalize M.getD 24 0 = E0 at *
          generalize M.getD 25 0 = P0 at *
          go_wp2
          go_ret
          exact ⟨by rw [E.out]; rfl, HB⟩
        · have b1 : decide (255 < M.getD k 0) = false := decide_eq_false h1
          have HJ2 : Hid (∀ j, j < k + 1 → 0 ≤ M.getD j 0 ∧ M.getD j 0 ≤ 255) := hid (fun j hj => by
            rcases Nat.lt_or_ge j k with h | h
            · exact HJ.out j h
            · have : j = k := by omega
              subst this; omega)
          clear HJ HM
          generalize hx : M.getD k 0 = x at *
          clear hx
          generalize M.getD 24 0 = E0 at *
          generalize M.getD 25 0 = P0 at *
          go_wp2
          go_round
          case rel => exact ⟨k + 1, by omega, by go_num, HJ2⟩
          case measure => simp [intOf]; omega
    · have hk24 : k = 24 := by omega
      subst hk24
      clear hlt hk
      by_cases t0 : 0 ≤ M.getD 24 0
      · have b0 : decide (0 ≤ M.getD 24 0) = true := decide_eq_true t0
        by_cases t1 : M.getD 24 0 ≤ 36
        · have b1 : decide (M.getD 24 0 ≤ 36) = true := decide_eq_true t1
          by_cases t2 : 0 ≤ M.getD 25 0
          · have b2 : decide (0 ≤ M.getD 25 0) = true := decide_eq_true t2
            by_cases t3 : M.getD 25 0 ≤ 255
            · have b3 : decide (M.getD 25 0 ≤ 255) = true := decide_eq_true t3
              have E : Hid (memB M = true) := hid (by rw [memB_last HJ.out, (inr_iff _ _ _).2 ⟨by omega, by omega⟩, (inr_iff _ _ _).2 ⟨by omega, by omega⟩]; rfl)
              clear HJ HM
              generalize M.getD 24 0 = E0 at *
              generalize M.getD 25 0 = P0 at *
              go_wp2
              go_ret
              exact ⟨by rw [E.out]; rfl, HB⟩
            · have b3 : decide (M.getD 25 0 ≤ 255) = false := decide_eq_false t3
              have E : Hid (memB M = false) := hid (by rw [memB_last HJ.out, (show inr (M.getD 25 0) 0 255 = false from inr_f (by omega))]; simp)
              clear HJ HM
              generalize M.getD 24 0 = E0 at *
              generalize M.getD 25 0 = P0 at *
              go_wp2
              go_ret
              exact ⟨by rw [E.out]; rfl, HB⟩
          · have b2 : decide (0 ≤ M.getD 25 0) = false := decide_eq_false t2
            have E : Hid (memB M = false) := hid (by rw [memB_last HJ.out, (show inr (M.getD 25 0) 0 255 = false from inr_f (by omega))]; simp)
            clear HJ HM
            generalize M.getD 24 0 = E0 at *
            generalize M.getD 25 0 = P0 at *
            go_wp2
            go_ret
            exact ⟨by rw [E.out]; rfl, HB⟩
        · have b1 : decide (M.getD 24 0 ≤ 36) = false := decide_eq_false t1
          have E : Hid (memB M = false) := hid (by rw [memB_last HJ.out, (show inr (M.getD 24 0) 0 36 = false from inr_f (by omega))]; simp)
          clear HJ HM
          generalize M.getD 24 0 = E0 at *
          generalize M.getD 25 0 = P0 at *
          go_wp2
          go_ret
          exact ⟨by rw [E.out]; rfl, HB⟩
      · have b0 : decide (0 ≤ M.getD 24 0) = false := decide_eq_false t0
        have E : Hid (memB M = false) := hid (by rw [memB_last HJ.out, (show inr (M.getD 24 0) 0 36 = false from inr_f (by omega))]; simp)
        clear HJ HM
        generalize M.getD 24 0 = E0 at *
        generalize M.getD 25 0 = P0 at *
        go_wp2
        go_ret
        exact ⟨by rw [E.out]; rfl, HB⟩
set_option maxHeartbeats 4000000 in
set_option maxRecDepth 100000 in
theorem rmem_any (M : List Int) (hM : M.length = 26) (w : World) : Calls Tryz.prog 30 #[.agg (memV M)] w fun x w' => x = .returned (.bool (memB M)) ∧ BelowW w w' := by
  have HM := hid hM
  have HB : BelowW w (w.alloc (.cells (memV M) 28)) := below1 w _
  have HH := hid (heap_alloc_new w (.cells (memV M) 28))
  clear hM
  go_enter Tryz.func30, Tryz.ntmps30
  go_upto_region 1 with (fail)
  generalize w.alloc (.cells (memV M) 28) = w1 at *
  generalize w.heap.size = g at *
  have q24 := mem_cell HM.out HH.out (k := 24) (by omega)
  have q25 := mem_cell HM.out HH.out (k := 25) (by omega)
  have HR := hid (mem_row HM.out HH.out)
  go_wp2
  go_loop [3] (fun i => ∃ k : Nat, k ≤ 24 ∧ i = .int .i64 k ∧ Hid (∀ j, j < k → 0 ≤ M.getD j 0 ∧ M.getD j 0 ≤ 255)) (fun i => 24 - (intOf i).toNat)
  case atStart => exact ⟨0, Nat.zero_le _, rfl, hid (fun j hj => by omega)⟩
  case round =>
    obtain ⟨k, hk, rfl, HJ⟩ := hrel
    by_cases hlt : k < 24
    · have hlt1 : (k : Int) < 24 := by omega
      have hk0 : (0 : Int) ≤ (k : Int) := by omega
      have qk := mem_cell HM.out HH.out (k := k) (by omega)
      have HV : Hid (M.getD k 0 = M.getD k 0) := hid rfl
      by_cases h0 : M.getD k 0 < 0
      · have E : Hid (memB M = false) := hid (memB_no hlt (by omega))
        have b0 : decide (M.getD k 0 < 0) = true := decide_eq_true h0
        clear HJ HM
        generalize M.getD k 0 = x at *
        generalize M.getD 24 0 = E0 at *
        generalize M.getD 25 0 = P0 at *
        go_wp2
        go_ret
        exact ⟨by rw [E.out]; rfl, HB⟩
      · have b0 : decide (M.getD k 0 < 0) = false := decide_eq_false h0
        by_cases h1 : 255 < M.getD k 0
        · have E : Hid (memB M = false) := hid (memB_no hlt (by omega))
          have b1 : decide (255 < M.getD k 0) = true := decide_eq_true h1
          clear HJ HM
          generalize M.getD k 0 = x at *
          generalize M.getD 24 0 = E0 at *
          generalize M.getD 25 0 = P0 at *
          go_wp2
          go_ret
          exact ⟨by rw [E.out]; rfl, HB⟩
        · have b1 : decide (255 < M.getD k 0) = false := decide_eq_false h1
          have HJ2 : Hid (∀ j, j < k + 1 → 0 ≤ M.getD j 0 ∧ M.getD j 0 ≤ 255) := hid (fun j hj => by
            rcases Nat.lt_or_ge j k with h | h
            · exact HJ.out j h
            · have : j = k := by omega
              subst this; omega)
          clear HJ HM
          generalize hx : M.getD k 0 = x at *
          clear hx
          generalize M.getD 24 0 = E0 at *
          generalize M.getD 25 0 = P0 at *
          go_wp2
          go_round
          case rel => exact ⟨k + 1, by omega, by go_num, HJ2⟩
          case measure => simp [intOf]; omega
    · have hk24 : k = 24 := by omega
      subst hk24
      clear hlt hk
      by_cases t0 : 0 ≤ M.getD 25 0
      · have b0 : decide (0 ≤ M.getD 25 0) = true := decide_eq_true t0
        by_cases t1 : M.getD 25 0 ≤ 255
        · have b1 : decide (M.getD 25 0 ≤ 255) = true := decide_eq_true t1
          by_cases t2 : 0 ≤ M.getD 24 0
          · have b2 : decide (0 ≤ M.getD 24 0) = true := decide_eq_true t2
            by_cases t3 : M.getD 24 0 ≤ 36
            · have b3 : decide (M.getD 24 0 ≤ 36) = true := decide_eq_true t3
              have E : Hid (memB M = true) := hid (by rw [memB_last HJ.out, (inr_iff _ _ _).2 ⟨by omega, by omega⟩, (inr_iff _ _ _).2 ⟨by omega, by omega⟩]; rfl)
              clear HJ HM
              generalize M.getD 24 0 = E0 at *
              generalize M.getD 25 0 = P0 at *
              go_wp2
              go_ret
              exact ⟨by rw [E.out]; rfl, HB⟩
            · have b3 : decide (M.getD 24 0 ≤ 36) = false := decide_eq_false t3
              have E : Hid (memB M = false) := hid (by rw [memB_last HJ.out, (show inr (M.getD 24 0) 0 36 = false from inr_f (by omega))]; simp)
              clear HJ HM
              generalize M.getD 24 0 = E0 at *
              generalize M.getD 25 0 = P0 at *
              go_wp2
              go_ret
              exact ⟨by rw [E.out]; rfl, HB⟩
          · have b2 : decide (0 ≤ M.getD 24 0) = false := decide_eq_false t2
            have E : Hid (memB M = false) := hid (by rw [memB_last HJ.out, (show inr (M.getD 24 0) 0 36 = false from inr_f (by omega))]; simp)
            clear HJ HM
            generalize M.getD 24 0 = E0 at *
            generalize M.getD 25 0 = P0 at *
            go_wp2
            go_ret
            exact ⟨by rw [E.out]; rfl, HB⟩
        · have b1 : decide (M.getD 25 0 ≤ 255) = false := decide_eq_false t1
          have E : Hid (memB M = false) := hid (by rw [memB_last HJ.out, (show inr (M.getD 25 0) 0 255 = false from inr_f (by omega))]; simp)
          clear HJ HM
          generalize M.getD 24 0 = E0 at *
          generalize M.getD 25 0 = P0 at *
          go_wp2
          go_ret
          exact ⟨by rw [E.out]; rfl, HB⟩
      · have b0 : decide (0 ≤ M.getD 25 0) = false := decide_eq_false t0
        have E : Hid (memB M = false) := hid (by rw [memB_last HJ.out, (show inr (M.getD 25 0) 0 255 = false from inr_f (by omega))]; simp)
        clear HJ HM
        generalize M.getD 24 0 = E0 at *
        generalize M.getD 25 0 = P0 at *
        go_wp2
        go_ret
        exact ⟨by rw [E.out]; rfl, HB⟩
end Go.Proofs.YtkpielgdfahanaaGreat
