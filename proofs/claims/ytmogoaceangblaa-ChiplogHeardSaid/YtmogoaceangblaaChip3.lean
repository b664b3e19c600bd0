/- The tone chip: a new one; a tone's period; the levels. -/
import Derived.Test.YtmogoaceangblaaChip2
import Derived.BigQuiet
namespace Go.Proofs.Ytmogoaceangblaa
open Go.RowKit

def newT : List Int := (List.replicate 24 0).set 21 1
theorem size54 : (Try.prog.info? 54).map (·.size) = some 24 := by kernel_rfl
set_option maxHeartbeats 2000000 in
set_option maxRecDepth 100000 in
theorem newtones_any (w : World) : Calls Try.prog 19 #[] w fun e w' => e = .returned (.agg (icells newT).toArray) ∧ Below w.heap.size w w' := by
  obtain ⟨N, hN⟩ : ∃ N, N = (icells newT).toArray := ⟨_, rfl⟩
  have hsz : (Try.prog.info? 54).map (·.size) = some N.size := by rw [hN]; exact size54
  have hns : N.size = 24 := by rw [hN]; rfl
  have hone : N.toList.all (·.oneCell') = true := by rw [hN]; kernel_rfl
  go_enter Try.func19, Try.ntmps19
  go_wp2_with (first | (refine wpList_store_new rfl 54 _ _ rfl _ N rfl (by rw [hN]; rfl) hsz (by rw [hns]; rfl) hone ?_))
  exact bodyPost_ret (results_cell_row rfl _ _ w.heap.size 54 _ (0, 0) _ rfl (heap_alloc_new w _) Try.underlying54 rfl hsz) rfl ⟨by rw [hN], Below.grow (Below.refl _ _) _⟩
/-- A tone's period. -/
def perT (T : List Int) (c : Nat) : Int := max 1 (T.getD (2 * c) 0 + T.getD (2 * c + 1) 0 % 16 * 256)
set_option maxHeartbeats 4000000 in
set_option maxRecDepth 100000 in
theorem period_any (T : List Int) (c : Nat) (w : World) (hT : T.length = 24) (hc : c < 3) (hR : ∀ i, i < 14 → 0 ≤ T.getD i 0 ∧ T.getD i 0 ≤ 255) :
    Calls Try.prog 37 #[.agg (icells T).toArray, .int .i64 c] w fun e w' => e = .returned (.int .i64 (perT T c)) ∧ Below w.heap.size w w' := by
  obtain ⟨a, ha⟩ : ∃ a, T[2 * c]? = some a := ⟨_, List.getElem?_eq_getElem (by omega)⟩
  obtain ⟨b, hb⟩ : ∃ b, T[2 * c + 1]? = some b := ⟨_, List.getElem?_eq_getElem (by omega)⟩
  have ha' : T.getD (2 * c) 0 = a := by rw [List.getD, ha]; rfl
  have hb' : T.getD (2 * c + 1) 0 = b := by rw [List.getD, hb]; rfl
  have hra := hR (2 * c) (by omega)
  have hrb := hR (2 * c + 1) (by omega)
  rw [ha'] at hra
  rw [hb'] at hrb
  have HP : Hid (perT T c = max 1 (a + b % 16 * 256)) := hid (by unfold perT; rw [ha', hb'])
  obtain ⟨ha0, ha1⟩ := hra
  obtain ⟨hb0, hb1⟩ := hrb
  have HA := hid ha; have HB := hid hb
  have HT := hid hT
  obtain ⟨p, hp⟩ : ∃ p : Nat, p = 2 * c := ⟨_, rfl⟩
  rw [← hp] at HA HB
  have hw1 : IntKind.i64.wrap (2 * (c : Int)) = (p : Int) := by rw [IntKind.wrap_i64]; omega
  have hw2 : IntKind.i64.wrap ((p : Int) + 1) = (p : Int) + 1 := by rw [IntKind.wrap_i64]; omega
  have hw3 : IntKind.i64.wrap (b.tmod 16 * 256) = b % 16 * 256 := by rw [Int.tmod_eq_emod_of_nonneg hb0, IntKind.wrap_i64]; omega
  have hw4 : IntKind.i64.wrap (a + b % 16 * 256) = a + b % 16 * 256 := by rw [IntKind.wrap_i64]; omega
  have hp0 : (0 : Int) ≤ (p : Int) := by omega
  have hp1 : (p : Int) < 14 := by omega
  have hp2 : (0 : Int) ≤ (p : Int) + 1 := by omega
  have hp3 : (p : Int) + 1 < 14 := by omega
  have hp4 : ((p : Int) + 1).toNat = p + 1 := by omega
  clear ha hb ha' hb' hT hR hp
  go_enter Try.func37, Try.ntmps37
  go_upto_region 1 with (fail)
  obtain ⟨w1, hw⟩ : ∃ z, z = w.alloc (Obj.cells (icells T).toArray 57) := ⟨_, rfl⟩
  rw [← hw]
  have HTN : Hid (ToneAt w1 w.heap.size T) := hid (by rw [hw]; exact ToneAt.new w T)
  have HBL : Hid (Below w.heap.size w w1) := hid (by rw [hw]; exact Below.grow (Below.refl _ _) _)
  have hc1 := HTN.out.cell HA.out
  have hc2 := HTN.out.cell HB.out
  clear hw
  go_wp2_with fail
  go_quiet (fail)
  go_wp2
  go_ret
  exact ⟨ret_int HP.out.symm, below_drewN HBL.out _⟩
/-- The levels from 15 down, so many of them. -/
def lvTo : Nat → List Int
  | 0 => (List.replicate 16 0).set 15 8192
  | j + 1 => (lvTo j).set (14 - j) ((lvTo j).getD (15 - j) 0 * 46341 / 65536)
theorem lvTo_len (j : Nat) : (lvTo j).length = 16 := by
  induction j with
  | zero => rfl
  | succ j ih => rw [lvTo, List.length_set]; exact ih
theorem lvTo_range (j : Nat) : ∀ i, 0 ≤ (lvTo j).getD i 0 ∧ (lvTo j).getD i 0 ≤ 8192 := by
  induction j with
  | zero =>
    intro i
    rw [List.getD, lvTo, List.getElem?_set]
    split
    · simp
    · rw [List.getElem?_replicate]; split <;> simp
  | succ j ih =>
    intro i
    rw [lvTo, List.getD, List.getElem?_set]
    split
    · split
      · have := ih (15 - j)
        simp only [Option.getD_some]
        omega
      · simp
    · exact ih i
def LvAt (w : World) (b : Nat) (L : List Int) : Prop := w.heap[b]? = some (.cells (icells L).toArray 73 (0, 0))
theorem size73 : (Try.prog.info? 73).map (·.size) = some 16 := by kernel_rfl
def zero16 : Array Value := (icells (List.replicate 16 0)).toArray
theorem LvAt.set {w : World} {b k : Nat} {T : List Int} {v : Int} (h : LvAt w b T) : LvAt (w.setCell ⟨b, k, none⟩ (.int .i64 v)) b (T.set k v) := by
  have h1 := heap_setCell_same w b k _ 73 (.int .i64 v) h
  unfold LvAt
  rw [h1]
  simp [icells, List.map_set]
def LevelsTo (w : World) (e : Ending) (w' : World) : Prop := e = .returned (.agg (icells (lvTo 14)).toArray) ∧ Below w.heap.size w w'
set_option maxHeartbeats 8000000 in
set_option maxRecDepth 100000 in
theorem levels_any (w : World) : Calls Try.prog 29 #[] w (LevelsTo w) := by
  go_enter Try.func29, Try.ntmps29
  go_upto_region 2 with (fail)
  obtain ⟨w1, hw1⟩ : ∃ z, z = (w.alloc (Obj.cells zero16 73)).alloc (Obj.cells zero16 73) := ⟨_, rfl⟩
  refine (show _ from ?_)
  have hz : ((w.alloc (Obj.cells #[Value.int IntKind.i64 0, Value.int IntKind.i64 0, Value.int IntKind.i64 0, Value.int IntKind.i64 0, Value.int IntKind.i64 0, Value.int IntKind.i64 0, Value.int IntKind.i64 0, Value.int IntKind.i64 0, Value.int IntKind.i64 0, Value.int IntKind.i64 0, Value.int IntKind.i64 0, Value.int IntKind.i64 0, Value.int IntKind.i64 0, Value.int IntKind.i64 0, Value.int IntKind.i64 0, Value.int IntKind.i64 0] 73)).alloc (Obj.cells #[Value.int IntKind.i64 0, Value.int IntKind.i64 0, Value.int IntKind.i64 0, Value.int IntKind.i64 0, Value.int IntKind.i64 0, Value.int IntKind.i64 0, Value.int IntKind.i64 0, Value.int IntKind.i64 0, Value.int IntKind.i64 0, Value.int IntKind.i64 0, Value.int IntKind.i64 0, Value.int IntKind.i64 0, Value.int IntKind.i64 0, Value.int IntKind.i64 0, Value.int IntKind.i64 0, Value.int IntKind.i64 0] 73)) = w1 := hw1.symm
  rw [hz]
  clear hz
  have HA : Hid (LvAt w1 (w.heap.size + 1) (List.replicate 16 0)) := hid (by rw [hw1]; have := heap_alloc_new (w.alloc (Obj.cells zero16 73)) (Obj.cells zero16 73); simpa [LvAt, zero16] using this)
  have HR : Hid (w1.heap[w.heap.size]? = some (.cells zero16 73 (0, 0))) := hid (by rw [hw1]; exact (Below.heap_alloc _ _ _ (by simp)).trans (heap_alloc_new w _))
  have HB : Hid (Below w.heap.size w w1) := hid (by rw [hw1]; exact Below.grow (Below.grow (Below.refl _ _) _) _)
  clear hw1
  have hc1 : w1.cell? ⟨w.heap.size + 1, 15, none⟩ = some (.int .i64 0) := cell_of_cells HA.out rfl
  have hf1 : w1.frozen? ⟨w.heap.size + 1, 15, none⟩ = false := frozen_of_cells HA.out
  go_wp2_with fail
  obtain ⟨w2, hw2⟩ : ∃ z, z = w1.setCell ⟨w.heap.size + 1, 15, none⟩ (.int .i64 8192) := ⟨_, rfl⟩
  rw [← hw2]
  have HA2 : Hid (LvAt w2 (w.heap.size + 1) (lvTo 0)) := hid (by rw [hw2]; exact HA.out.set)
  have HR2 : Hid (w2.heap[w.heap.size]? = some (.cells zero16 73 (0, 0))) := hid (by rw [hw2, heap_setCell_other _ ⟨w.heap.size + 1, 15, none⟩ _ _ (by simp)]; exact HR.out)
  have HB2 : Hid (Below w.heap.size w w2) := hid (by rw [hw2]; exact HB.out.setCell (p := ⟨w.heap.size + 1, 15, none⟩) (by simp) _)
  clear hw2 hc1 hf1 HA HR HB
  go_loopw [2] (fun v wr => ∃ j : Nat, j ≤ 14 ∧ v = .int .i64 (14 - (j : Int)) ∧ Hid (LvAt wr (w.heap.size + 1) (lvTo j)) ∧ Hid (wr.heap[w.heap.size]? = some (.cells zero16 73 (0, 0))) ∧ Hid (Below w.heap.size w wr)) (fun v _ => (intOf v).toNat)
  case atStart => exact ⟨0, by omega, rfl, HA2, HR2, HB2⟩
  case round =>
    obtain ⟨j, hj, rfl, HA, HR, HB⟩ := hrel
    by_cases hlt : j < 14
    · have hd : decide (0 < 14 - (j : Int)) = true := decide_eq_true (by omega)
      obtain ⟨x, hx⟩ : ∃ x, (lvTo j)[15 - j]? = some x := ⟨_, List.getElem?_eq_getElem (by rw [lvTo_len]; omega)⟩
      have hxr := lvTo_range j (15 - j)
      have hxg : (lvTo j).getD (15 - j) 0 = x := by rw [List.getD, hx]; rfl
      rw [hxg] at hxr
      obtain ⟨hx0, hx1⟩ := hxr
      have HNX : Hid (lvTo (j + 1) = (lvTo j).set (14 - j) (x * 46341 / 65536)) := hid (by rw [lvTo, hxg])
      obtain ⟨y, hy⟩ : ∃ y, (lvTo j)[14 - j]? = some y := ⟨_, List.getElem?_eq_getElem (by rw [lvTo_len]; omega)⟩
      have hcx : wr.cell? ⟨w.heap.size + 1, 15 - j, none⟩ = some (.int .i64 x) := cell_of_cells HA.out (by simpa using icells_at hx)
      have hcy : wr.cell? ⟨w.heap.size + 1, 14 - j, none⟩ = some (.int .i64 y) := cell_of_cells HA.out (by simpa using icells_at hy)
      have hfy : wr.frozen? ⟨w.heap.size + 1, 14 - j, none⟩ = false := frozen_of_cells HA.out
      obtain ⟨n, hn⟩ : ∃ n : Nat, n = 14 - j := ⟨_, rfl⟩
      have hn1 : 14 - (j : Int) = (n : Int) := by omega
      have hn2 : 15 - j = n + 1 := by omega
      rw [hn2] at hcx
      rw [← hn] at hcy hfy HNX
      rw [hn1] at hd ⊢
      have hn4 : (n : Int) ≤ 14 := by omega
      have hn5 : (1 : Int) ≤ (n : Int) := by omega
      have hi0 : (0 : Int) ≤ (n : Int) + 1 := by omega
      have hi1 : (n : Int) + 1 < 16 := by omega
      have hi2 : ((n : Int) + 1).toNat = n + 1 := by omega
      have HN := hid hn
      clear hx hy hxg hn hn1 hn2
      go_wp2_with fail
      go_roundw
      case rel =>
        refine ⟨j + 1, by omega, by have := HN.out; rw [this]; congr 1; omega, hid (by rw [HNX.out]; exact HA.out.set), hid (by rw [heap_setCell_other _ ⟨w.heap.size + 1, n, none⟩ _ _ (by simp)]; exact HR.out), hid (HB.out.setCell (p := ⟨w.heap.size + 1, n, none⟩) (by simp) _)⟩
      case measure => simp [intOf]; omega
    · obtain rfl : j = 14 := by omega
      have hsz : (Try.prog.info? 73).map (·.size) = some (icells (lvTo 14)).toArray.size := by rw [size73]; simp [icells, lvTo_len]
      have HSZ := hid hsz
      clear hsz
      go_wp2_with (first | (refine wpList_load_row rfl 73 _ rfl (w.heap.size + 1) rfl 73 _ (0, 0) _ HA.out Try.underlying73 rfl HSZ.out ?_) | (refine wpList_store_row rfl 73 _ _ rfl w.heap.size (icells (lvTo 14)).toArray rfl rfl 73 _ HR.out HSZ.out (by simp [zero16, icells, lvTo_len]) (all_oneCell_toArray (icells_one _)) ?_))
      exact bodyPost_ret (results_cell_row rfl _ _ w.heap.size 73 _ (0, 0) _ rfl (setRow_heap wr _ _ _ 73 (0, 0) HR.out) Try.underlying73 rfl HSZ.out) rfl ⟨rfl, Below.row HB.out (by omega) _⟩
end Go.Proofs.Ytmogoaceangblaa
