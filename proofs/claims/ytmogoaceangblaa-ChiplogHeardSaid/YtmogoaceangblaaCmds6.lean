/- chiplog's commands, and which one a byte asks for. -/
import Derived.Test.YtmogoaceangblaaCmds5
import Derived.Laws.EntriesVeiled
namespace Go.Proofs.Ytmogoaceangblaa
open Go.RowKit

def fnV (n : Nat) : Value := .func (.func n) #[] #[]
def cmdCells : List Value := [.int .i64 127, fnV 32, .int .i64 191, fnV 33, .int .i64 192, fnV 34, .int .i64 255, fnV 35]
def lastAt (i : Nat) : Int := [127, 191, 192, 255].getD i 0
def doAt (i : Nat) : Nat := [32, 33, 34, 35].getD i 0
set_option maxHeartbeats 2000000 in
theorem tcommands (w : World) :
    Calls Try.prog 25 #[] w fun e w' => e = .returned (.agg cmdCells.toArray) ∧ Below w.heap.size w w' := by
  go_enter Try.func25, Try.ntmps25
  go_wp2
  exact bodyPost_ret (results_cell_row rfl _ _ w.heap.size 67 _ (0, 0) _ rfl (heap_alloc_new w _) Try.underlying67 rfl (by kernel_rfl)) rfl ⟨rfl, Below.grow (Below.refl _ _) _⟩
/-- Whether a byte is in a command's range. -/
theorem tin (w : World) (bc : Nat) (n l : Int) (g : Value) (hc : w.cell? ⟨bc, 0, none⟩ = some (.int .i64 n)) :
    Calls Try.prog 28 #[.agg #[.int .i64 l, g], .pointer (some ⟨bc, 0, none⟩)] w fun e w' => e = .returned (.bool (decide (n ≤ l))) ∧ Below w.heap.size w w' := by
  have hlt := World.block_lt_of_cell? w _ hc
  have hca : ∀ ob, (w.alloc ob).cell? ⟨bc, 0, none⟩ = some (.int .i64 n) := fun ob => by
    rw [← hc]; exact (Below.grow (Below.refl w.heap.size w) ob).cell (p := ⟨bc, 0, none⟩) hlt
  clear hc
  go_enter Try.func28, Try.ntmps28
  go_wp2
  go_ret
  exact ⟨rfl, Below.grow (Below.refl _ _) _⟩
def idxOf (n : Int) : Nat := if n ≤ 127 then 0 else if n ≤ 191 then 1 else if n ≤ 192 then 2 else 3
set_option maxHeartbeats 2000000 in
theorem tfind (w : World) (ba bc : Nat) (n : Int) (hn : n ≤ 255) (ha : w.heap[ba]? = some (.cells cmdCells.toArray 67 (0, 0))) (hc : w.cell? ⟨bc, 0, none⟩ = some (.int .i64 n)) :
    Calls Try.prog 27 #[.slice (some ⟨ba, 0, none⟩) 4 4, .func (.func 28) #[] #[.pointer (some ⟨bc, 0, none⟩)]] w fun e w' => e = .returned (.int .i64 (idxOf n)) ∧ Below w.heap.size w w' := by
  have hlt := World.block_lt_of_cell? w _ hc
  have hla : ba < w.heap.size := (Array.getElem?_eq_some_iff.1 ha).1
  have HA : Hid (∀ W, Below w.heap.size w W → W.heap[ba]? = some (.cells cmdCells.toArray 67 (0, 0))) := hid fun W h => (h.block ba hla).trans ha
  have HC : Hid (∀ W, Below w.heap.size w W → W.cell? ⟨bc, 0, none⟩ = some (.int .i64 n)) := hid fun W h => (h.cell (p := ⟨bc, 0, none⟩) hlt).trans hc
  clear ha hc
  go_enter Try.func27, Try.ntmps27
  go_wp2
  go_loopw [8] (fun i wr => ∃ k : Nat, k ≤ 3 ∧ i = .int .i64 k ∧ (∀ j, j < k → lastAt j < n) ∧ Hid (Below w.heap.size w wr)) (fun i _ => 4 - (intOf i).toNat)
  case atStart => exact ⟨0, by omega, rfl, fun j hj => absurd hj (by omega), hid (Below.refl _ _)⟩
  case round =>
    obtain ⟨k, hk, rfl, hlo, HB⟩ := hrel
    have hk4 : k = 0 ∨ k = 1 ∨ k = 2 ∨ k = 3 := by omega
    have hc0 : wr.cell? ⟨ba, k * 2, none⟩ = some (.int .i64 (lastAt k)) := by
      refine cell_of_cells (HA.out _ HB.out) ?_
      rcases hk4 with rfl | rfl | rfl | rfl <;> rfl
    have hc1 : wr.cell? ⟨ba, k * 2 + 1, none⟩ = some (fnV (doAt k)) := by
      refine cell_of_cells (HA.out _ HB.out) ?_
      rcases hk4 with rfl | rfl | rfl | rfl <;> rfl
    have h3 : k = 3 → n ≤ lastAt k := fun e => by subst e; exact hn
    have HI : Hid (n ≤ lastAt k → idxOf n = k) := hid (fun h => by
      unfold idxOf
      have hj := hlo
      rcases hk4 with rfl | rfl | rfl | rfl
      · rw [if_pos (show n ≤ 127 from h)]
      · have h0 : (127 : Int) < n := hj 0 (by omega)
        rw [if_neg (by omega), if_pos (show n ≤ 191 from h)]
      · have h0 : (191 : Int) < n := hj 1 (by omega)
        rw [if_neg (by omega), if_neg (by omega), if_pos (show n ≤ 192 from h)]
      · have h0 : (192 : Int) < n := hj 2 (by omega)
        rw [if_neg (by omega), if_neg (by omega), if_neg (by omega)])
    have HLO := hid hlo
    have H3 := hid h3
    obtain ⟨l, hl⟩ : ∃ l, l = lastAt k := ⟨_, rfl⟩
    obtain ⟨g, hg⟩ : ∃ g, g = fnV (doAt k) := ⟨_, rfl⟩
    rw [← hl] at hc0 HI
    rw [← hg] at hc1
    have HL := hid hl
    have hk0 : (0 : Int) ≤ (k : Int) := by omega
    have hk5 : (k : Int) < 4 := by omega
    clear hlo h3 hl hg hk4
    go_wp2_with fail
    refine (tin _ bc n l g (HC.out _ HB.out)).mono ?_
    rintro e w2 ⟨rfl, hb⟩
    have HB2 := hid (Below.step HB.out hb)
    clear hb hc0 hc1
    by_cases hd : n ≤ l
    · have hdd : decide (n ≤ l) = true := decide_eq_true hd
      have HE := HI.out hd
      rw [hdd]
      clear hdd hd
      go_wp2
      go_ret
      exact ⟨by rw [HE]; rfl, HB2.out⟩
    · have hdd : decide (n ≤ l) = false := decide_eq_false hd
      have hk3 : k + 1 ≤ 3 := by
        rcases Nat.lt_or_ge k 3 with h | h
        · exact h
        · exact absurd (HL.out ▸ H3.out (by omega)) hd
      have HD := hid (Int.not_le.1 hd)
      rw [hdd]
      clear hdd hd
      go_wp2
      go_roundw
      case rel =>
        refine ⟨k + 1, hk3, by go_num, fun j hj => ?_, HB2⟩
        rcases Nat.lt_or_ge j k with h | h
        · exact HLO.out j h
        · obtain rfl : j = k := by omega
          rw [← HL.out]; exact HD.out
      case measure => simp [intOf]; omega
end Go.Proofs.Ytmogoaceangblaa
