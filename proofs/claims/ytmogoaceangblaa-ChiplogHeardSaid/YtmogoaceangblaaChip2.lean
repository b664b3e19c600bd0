/- The tone chip in memory; a register written; a tone's period; a new chip. -/
import Derived.Test.YtmogoaceangblaaChip1
import Derived.Test.YtmogoaceangblaaTape
import Derived.Deep.Cut
namespace Go.Proofs.Ytmogoaceangblaa
open Go.RowKit

/-- The chip's 24 numbers in a block. -/
def ToneAt (w : World) (b : Nat) (T : List Int) : Prop := w.heap[b]? = some (.cells (icells T).toArray 57 (0, 0))
theorem size57 : (Try.prog.info? 57).map (·.size) = some 24 := by kernel_rfl
theorem size57' {T : List Int} (h : T.length = 24) : (Try.prog.info? 57).map (·.size) = some (icells T).toArray.size := by rw [size57]; simp [icells, h]
theorem ToneAt.cell {w : World} {b k : Nat} {T : List Int} {v : Int} (h : ToneAt w b T) (hv : T[k]? = some v) : w.cell? ⟨b, k, none⟩ = some (.int .i64 v) := cell_of_cells h (by simpa using icells_at hv)
theorem ToneAt.frozen {w : World} {b k : Nat} {T : List Int} (h : ToneAt w b T) : w.frozen? ⟨b, k, none⟩ = false := frozen_of_cells h
theorem ToneAt.lt {w : World} {b : Nat} {T : List Int} (h : ToneAt w b T) : b < w.heap.size := (Array.getElem?_eq_some_iff.1 h).1
theorem ToneAt.below {w w' : World} {b B : Nat} {T : List Int} (h : ToneAt w b T) (hb : Below B w w') (hl : b < B) : ToneAt w' b T := (hb.block b hl).trans h
theorem ToneAt.only {w w' : World} {O : Nat → Prop} {b : Nat} {T : List Int} (h : ToneAt w b T) (k : Only O w w') (hO : ¬ O b) : ToneAt w' b T := (k.block b h.lt hO).trans h
theorem ToneAt.set {w : World} {b k : Nat} {T : List Int} {v : Int} (h : ToneAt w b T) : ToneAt (w.setCell ⟨b, k, none⟩ (.int .i64 v)) b (T.set k v) := by
  have h1 := heap_setCell_same w b k _ 57 (.int .i64 v) h
  unfold ToneAt
  rw [h1]
  simp [icells, List.map_set]
theorem ToneAt.far {w : World} {b g k : Nat} {T : List Int} {v : Value} (h : ToneAt w b T) (hne : b ≠ g) : ToneAt (w.setCell ⟨g, k, none⟩ v) b T := (heap_setCell_other w ⟨g, k, none⟩ b v hne).trans h
theorem ToneAt.new (w : World) (T : List Int) : ToneAt (w.alloc (.cells (icells T).toArray 57)) w.heap.size T := heap_alloc_new w _
theorem ToneAt.alloc {w : World} {b : Nat} {T : List Int} (h : ToneAt w b T) (o : Obj) : ToneAt (w.alloc o) b T := h.below (Below.grow (Below.refl w.heap.size w) o) h.lt
/-- What writing a register leaves. -/
def wrT (T : List Int) (r : Nat) (v : Int) : List Int := if r = 13 then ((T.set 13 v).set 23 0).set 22 0 else T.set r v
theorem wrT_len (T : List Int) (r : Nat) (v : Int) : (wrT T r v).length = T.length := by unfold wrT; split <;> simp
def zero24 : Array Value := (icells (List.replicate 24 0)).toArray
set_option maxHeartbeats 4000000 in
set_option maxRecDepth 100000 in
theorem written_any (T : List Int) (r : Nat) (v : Int) (w : World) (hT : T.length = 24) (hr : r < 14) :
    Calls Try.prog 20 #[.agg (icells T).toArray, .int .i64 r, .int .i64 v] w fun e w' => e = .returned (.agg (icells (wrT T r v)).toArray) ∧ Below w.heap.size w w' := by
  have HT := hid hT
  have hr0 : (0 : Int) ≤ (r : Int) := by omega
  have hr1 : (r : Int) < 14 := by omega
  have hu57 := Try.underlying57
  have HSZ := hid (size57' hT)
  have HSN : Hid ((icells T).toArray.size = 24) := hid (by simp [icells, hT])
  clear hT
  obtain ⟨y, hy⟩ : ∃ y, T[r]? = some y := ⟨_, List.getElem?_eq_getElem (by rw [HT.out]; omega)⟩
  have HY := hid hy
  clear hy
  by_cases h13 : r = 13
  · subst h13
    obtain ⟨y2, hy2⟩ : ∃ y, T[23]? = some y := ⟨_, List.getElem?_eq_getElem (by rw [HT.out]; omega)⟩
    obtain ⟨y3, hy3⟩ : ∃ y, T[22]? = some y := ⟨_, List.getElem?_eq_getElem (by rw [HT.out]; omega)⟩
    have HY2 := hid hy2; have HY3 := hid hy3
    clear hy2 hy3
    go_enter Try.func20, Try.ntmps20
    go_upto_region 1 with (fail)
    obtain ⟨w1, hw1⟩ : ∃ z, z = (w.alloc (Obj.cells (icells T).toArray 57)).alloc (Obj.cells zero24 57) := ⟨_, rfl⟩
    have hz : ((w.alloc (Obj.cells (icells T).toArray 57)).alloc (Obj.cells #[Value.int IntKind.i64 0, Value.int IntKind.i64 0, Value.int IntKind.i64 0, Value.int IntKind.i64 0, Value.int IntKind.i64 0, Value.int IntKind.i64 0, Value.int IntKind.i64 0, Value.int IntKind.i64 0, Value.int IntKind.i64 0, Value.int IntKind.i64 0, Value.int IntKind.i64 0, Value.int IntKind.i64 0, Value.int IntKind.i64 0, Value.int IntKind.i64 0, Value.int IntKind.i64 0, Value.int IntKind.i64 0, Value.int IntKind.i64 0, Value.int IntKind.i64 0, Value.int IntKind.i64 0, Value.int IntKind.i64 0, Value.int IntKind.i64 0, Value.int IntKind.i64 0, Value.int IntKind.i64 0, Value.int IntKind.i64 0] 57)) = w1 := hw1.symm
    rw [hz]
    clear hz
    have HA : Hid (ToneAt w1 w.heap.size T) := hid (by rw [hw1]; exact (ToneAt.new w T).alloc _)
    have HR : Hid (w1.heap[w.heap.size + 1]? = some (.cells zero24 57 (0, 0))) := hid (by rw [hw1]; have := heap_alloc_new (w.alloc (Obj.cells (icells T).toArray 57)) (Obj.cells zero24 57); simpa using this)
    have HB : Hid (Below w.heap.size w w1) := hid (by rw [hw1]; exact Below.grow (Below.grow (Below.refl _ _) _) _)
    clear hw1
    have hc1 := HA.out.cell HY.out
    have hf1 := HA.out.frozen (k := 13)
    have hc2 := HA.out.cell HY2.out
    have hc3 := HA.out.cell HY3.out
    have hf2 := HA.out.frozen (k := 23)
    have hf3 := HA.out.frozen (k := 22)
    clear hu57
    go_upto_region 4 with (fail)
    have HA2 : Hid (ToneAt (((w1.setCell ⟨w.heap.size, 13, none⟩ (.int .i64 v)).setCell ⟨w.heap.size, 23, none⟩ (.int .i64 0)).setCell ⟨w.heap.size, 22, none⟩ (.int .i64 0)) w.heap.size (wrT T 13 v)) := hid HA.out.set.set.set
    obtain ⟨w2, hw2⟩ : ∃ z, z = ((w1.setCell ⟨w.heap.size, 13, none⟩ (.int .i64 v)).setCell ⟨w.heap.size, 23, none⟩ (.int .i64 0)).setCell ⟨w.heap.size, 22, none⟩ (.int .i64 0) := ⟨_, rfl⟩
    rw [← hw2]
    obtain ⟨T2, hT2⟩ : ∃ z, z = wrT T 13 v := ⟨_, rfl⟩
    have HL2 : Hid (T2.length = 24) := hid (by rw [hT2, wrT_len]; exact HT.out)
    have HR2 : Hid (w2.heap[w.heap.size + 1]? = some (.cells zero24 57 (0, 0))) := hid (by rw [hw2]; rw [heap_setCell_other _ ⟨w.heap.size, 22, none⟩ (w.heap.size + 1) _ (by simp)]; rw [heap_setCell_other _ ⟨w.heap.size, 23, none⟩ (w.heap.size + 1) _ (by simp)]; rw [heap_setCell_other _ ⟨w.heap.size, 13, none⟩ (w.heap.size + 1) _ (by simp)]; exact HR.out)
    have HB2 : Hid (Below w.heap.size w w2) := hid (by rw [hw2]; exact ((HB.out.setCell (p := ⟨w.heap.size, 13, none⟩) (Nat.le_refl _) _).setCell (p := ⟨w.heap.size, 23, none⟩) (Nat.le_refl _) _).setCell (p := ⟨w.heap.size, 22, none⟩) (Nat.le_refl _) _)
    rw [← hT2] at HA2
    have HTE := hid hT2
    rw [← hw2] at HA2
    clear hw2 hT2 HA HR HB hc1 hc2 hc3 hf1 hf2 hf3
    have HSZ2 := hid (size57' HL2.out)
    go_wp2_with (first | (refine wpList_load_row rfl 57 _ rfl w.heap.size rfl 57 _ (0, 0) _ HA2.out Try.underlying57 rfl HSZ2.out ?_) | (refine wpList_store_row rfl 57 _ _ rfl (w.heap.size + 1) (icells T2).toArray rfl rfl 57 _ HR2.out HSZ2.out (by simp [zero24, icells, HL2.out]) (all_oneCell_toArray (icells_one T2)) ?_))
    exact bodyPost_ret (results_cell_row rfl _ _ (w.heap.size + 1) 57 _ (0, 0) _ rfl (setRow_heap w2 _ _ _ 57 (0, 0) HR2.out) Try.underlying57 rfl HSZ2.out) rfl ⟨by rw [HTE.out], Below.row HB2.out (by omega) _⟩
  · have hne : ((r : Int) == 13) = false := by rw [beq_eq_false_iff_ne]; omega
    have HW : Hid (wrT T r v = T.set r v) := hid (by unfold wrT; rw [if_neg h13])
    go_enter Try.func20, Try.ntmps20
    go_upto_region 1 with (fail)
    obtain ⟨w1, hw1⟩ : ∃ z, z = (w.alloc (Obj.cells (icells T).toArray 57)).alloc (Obj.cells zero24 57) := ⟨_, rfl⟩
    have hz : ((w.alloc (Obj.cells (icells T).toArray 57)).alloc (Obj.cells #[Value.int IntKind.i64 0, Value.int IntKind.i64 0, Value.int IntKind.i64 0, Value.int IntKind.i64 0, Value.int IntKind.i64 0, Value.int IntKind.i64 0, Value.int IntKind.i64 0, Value.int IntKind.i64 0, Value.int IntKind.i64 0, Value.int IntKind.i64 0, Value.int IntKind.i64 0, Value.int IntKind.i64 0, Value.int IntKind.i64 0, Value.int IntKind.i64 0, Value.int IntKind.i64 0, Value.int IntKind.i64 0, Value.int IntKind.i64 0, Value.int IntKind.i64 0, Value.int IntKind.i64 0, Value.int IntKind.i64 0, Value.int IntKind.i64 0, Value.int IntKind.i64 0, Value.int IntKind.i64 0, Value.int IntKind.i64 0] 57)) = w1 := hw1.symm
    rw [hz]
    clear hz
    have HA : Hid (ToneAt w1 w.heap.size T) := hid (by rw [hw1]; exact (ToneAt.new w T).alloc _)
    have HR : Hid (w1.heap[w.heap.size + 1]? = some (.cells zero24 57 (0, 0))) := hid (by rw [hw1]; have := heap_alloc_new (w.alloc (Obj.cells (icells T).toArray 57)) (Obj.cells zero24 57); simpa using this)
    have HB : Hid (Below w.heap.size w w1) := hid (by rw [hw1]; exact Below.grow (Below.grow (Below.refl _ _) _) _)
    clear hw1
    have hc1 := HA.out.cell HY.out
    have hf1 := HA.out.frozen (k := r)
    clear hu57
    go_upto_region 4 with (fail)
    have HA2 : Hid (ToneAt (w1.setCell ⟨w.heap.size, r, none⟩ (.int .i64 v)) w.heap.size (wrT T r v)) := hid (by rw [HW.out]; exact HA.out.set)
    obtain ⟨w2, hw2⟩ : ∃ z, z = w1.setCell ⟨w.heap.size, r, none⟩ (.int .i64 v) := ⟨_, rfl⟩
    rw [← hw2]
    obtain ⟨T2, hT2⟩ : ∃ z, z = wrT T r v := ⟨_, rfl⟩
    have HL2 : Hid (T2.length = 24) := hid (by rw [hT2, wrT_len]; exact HT.out)
    have HR2 : Hid (w2.heap[w.heap.size + 1]? = some (.cells zero24 57 (0, 0))) := hid (by rw [hw2]; rw [heap_setCell_other _ ⟨w.heap.size, r, none⟩ (w.heap.size + 1) _ (by simp)]; exact HR.out)
    have HB2 : Hid (Below w.heap.size w w2) := hid (by rw [hw2]; exact HB.out.setCell (p := ⟨w.heap.size, r, none⟩) (Nat.le_refl _) _)
    rw [← hT2] at HA2
    have HTE := hid hT2
    rw [← hw2] at HA2
    clear hw2 hT2 HA HR HB hc1 hf1
    have HSZ2 := hid (size57' HL2.out)
    go_wp2_with (first | (refine wpList_load_row rfl 57 _ rfl w.heap.size rfl 57 _ (0, 0) _ HA2.out Try.underlying57 rfl HSZ2.out ?_) | (refine wpList_store_row rfl 57 _ _ rfl (w.heap.size + 1) (icells T2).toArray rfl rfl 57 _ HR2.out HSZ2.out (by simp [zero24, icells, HL2.out]) (all_oneCell_toArray (icells_one T2)) ?_))
    exact bodyPost_ret (results_cell_row rfl _ _ (w.heap.size + 1) 57 _ (0, 0) _ rfl (setRow_heap w2 _ _ _ 57 (0, 0) HR2.out) Try.underlying57 rfl HSZ2.out) rfl ⟨by rw [HTE.out], Below.row HB2.out (by omega) _⟩
end Go.Proofs.Ytmogoaceangblaa
