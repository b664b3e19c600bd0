/- chiplog.changed lists the places where two entries differ; chiplog.before is the entry before one. -/
import Derived.Test.YtmogoaceangblaaEntries
import Derived.StillTailTactics
import Derived.BigQuiet
import Derived.Deep.QuietTactic
namespace Go.Proofs.Ytmogoaceangblaa
open Go.RowKit

/-- The places below n where two rows differ. -/
def diffsTo (x y : List Int) : Nat → List Int
  | 0 => []
  | n + 1 => if x.getD n 0 = y.getD n 0 then diffsTo x y n else diffsTo x y n ++ [(n : Int)]
def diffs (x y : List Int) : List Int := diffsTo x y 14
theorem diffsTo_le (x y : List Int) (n : Nat) : (diffsTo x y n).length ≤ n := by
  induction n with
  | zero => exact Nat.le_refl _
  | succ n ih => unfold diffsTo; split; omega; simp; omega
def Changed (x y : List Int) (w : World) (e : Ending) (w' : World) : Prop :=
  ∃ v, e = .returned v ∧ w'.ownsRow w.heap.size 3 1 v (diffs x y).length (icells (diffs x y)) ∧ Below w.heap.size w w'

set_option maxHeartbeats 4000000 in
set_option maxRecDepth 100000 in
theorem changed_any (x y : List Int) (w : World) (hx : x.length = 14) (hy : y.length = 14) :
    Calls Try.prog 23 #[.agg (icells x).toArray, .agg (icells y).toArray] w (Changed x y w) := by
  obtain ⟨i0, hi, hz0, hz1, hz2⟩ := info_parts info3
  have HI := hid hi; have HZ0 := hid hz0; have HZ1 := hid hz1; have HZ2 := hid hz2; clear hi hz0 hz1 hz2
  have HX := hid hx; have HY := hid hy; clear hx hy
  go_enter Try.func23, Try.ntmps23
  go_wp2
  generalize hw1 : ((w.alloc (Obj.cells (icells x).toArray 43)).alloc (Obj.cells (icells y).toArray 43)) = w1
  have HS : Hid (w1.heap.size = w.heap.size + 2) := hid (by rw [← hw1]; simp)
  have HB1 : Hid (Below w.heap.size w w1) := hid (by rw [← hw1]; exact (Below.grow (Below.grow (Below.refl _ _) _) _))
  have HRX : Hid (w1.rangeAt w.heap.size 0 (icells x)) := hid (by
    rw [← hw1]
    exact rangeAt_below (by simpa using range_made w (icells x).toArray 43) (Below.grow (Below.refl _ _) _))
  have HRY : Hid (w1.rangeAt (w.heap.size + 1) 0 (icells y)) := hid (by
    rw [← hw1]
    have := range_made (w.alloc (Obj.cells (icells x).toArray 43)) (icells y).toArray 43
    simpa using this)
  have hs := HS.out
  clear hw1
  go_loopw [5, 7] (fun v i wr => ∃ k m : Nat, k ≤ 14 ∧ m ≤ 14 ∧ i = .int .i64 k ∧ Hid (m = (diffsTo x y k).length) ∧ Hid (wr.ownsRow (w.heap.size + 2) 3 1 v m (icells (diffsTo x y k))) ∧ Hid (Below (w.heap.size + 2) w1 wr)) (fun _ i _ => 14 - (intOf i).toNat)
  case atStart => exact ⟨0, 0, Nat.zero_le _, Nat.zero_le _, rfl, hid rfl, hid (World.ownsRow_nil _ _ _ _), hid (Below.refl _ _)⟩
  case round =>
    obtain ⟨k, m, hk, hm, rfl, HM, HO, HB⟩ := hrel
    by_cases hlt : k < 14
    · obtain ⟨p, hp⟩ : ∃ v, x[k]? = some v := ⟨_, List.getElem?_eq_getElem (by have := HX.out; omega)⟩
      obtain ⟨q, hq⟩ : ∃ v, y[k]? = some v := ⟨_, List.getElem?_eq_getElem (by have := HY.out; omega)⟩
      have hcp := rangeAt_below' HRX.out HB.out (by omega) k _ (icells_at hp)
      have hcq := rangeAt_below' HRY.out HB.out (by omega) k _ (icells_at hq)
      rw [Nat.zero_add] at hcp hcq
      have HD : Hid (p = q → diffsTo x y (k + 1) = diffsTo x y k) := hid (by
        intro h; rw [diffsTo, List.getD, List.getD, hp, hq]; exact if_pos h)
      have HE : Hid (p ≠ q → diffsTo x y (k + 1) = diffsTo x y k ++ [(k : Int)]) := hid (by
        intro h; rw [diffsTo, List.getD, List.getD, hp, hq]; exact if_neg h)
      clear hp hq
      have hk0 : (0 : Int) ≤ (k : Int) := Int.natCast_nonneg _
      have hk1 : (k : Int) < 14 := by omega
      have hsz := HB.out.size
      by_cases hpq : p = q
      · have HD' := hid (HD.out hpq); clear HD HE
        subst hpq
        go_wp2
        go_quiet (fail)
        go_wp2
        go_roundw
        case rel => exact ⟨k + 1, m, by omega, hm, by go_num, hid (by rw [HD'.out]; exact HM.out), hid (by rw [HD'.out]; exact HO.out), hid (below_drewN HB.out _)⟩
        case measure => simp [intOf]; omega
      · have hne : (p != q) = true := by rw [bne_iff_ne]; exact hpq
        have HE' := hid (HE.out hpq); clear HD HE hpq
        go_wp2
        go_quiet (fail)
        have HO3 : Hid ((wr.drewN nq).ownsRow (w.heap.size + 2) 3 1 u5 m (icells (diffsTo x y k))) := hid HO.out
        have HB3 := hid (below_drewN HB.out nq)
        have hs3 := HB3.out.size
        clear HO HB hcp hcq
        generalize wr.drewN nq = w3 at *
        have HML : Hid (m + 1 ≤ maxLen) := hid (by unfold maxLen; omega)
        go_wp2_with (first | (at_builtin; (refine wpList_append_own _ rfl _ _ 30 rfl (w.heap.size + 2) 3 i0 _ 1 8 Try.underlying30 HI.out HZ0.out HZ1.out HZ2.out rfl (by decide) u5 m _ rfl (HO3.out.alloc _) _ 1 1 [.int .i64 k] rfl rfl (news_int _ _ _) (by simp [Value.oneCell']) HML.out (by omega) (by simp; omega) ?_)))
        intro v' w4 hown hg _
        have HO4 := hid hown
        have HB4 := hid (Below.grown (Below.alloc HB3.out (by omega) (.cells #[.int .i64 (k : Int)] 3)) hg (by simp; omega) (fun q hq => (HO3.out.lt q hq).1)); clear hg hown HO3 HB3
        go_wp2
        go_roundw
        case rel => exact ⟨k + 1, m + 1, by omega, by have := HM.out; have := diffsTo_le x y k; omega, by go_num, hid (by rw [HE'.out, HM.out]; simp), hid (by rw [HE'.out]; simpa [icells] using HO4.out), HB4.out⟩
        case measure => simp [intOf]; omega
    · obtain rfl : k = 14 := by omega
      go_wp2
      go_ret
      exact ⟨_, rfl, by have h := owned_base HO.out (base' := w.heap.size) (by omega); rw [HM.out] at h; exact h, HB1.out.trans (HB.out.mono (by omega))⟩

/-- The entry before one; before the first one all is zero. -/
def prev (xs : List (List Int)) (i : Nat) : List Int := if i = 0 then List.replicate 14 0 else xs.getD (i - 1) []
theorem prev_len {xs : List (List Int)} {i : Nat} (h : ∀ z ∈ xs, z.length = 14) (hi : i ≤ xs.length) : (prev xs i).length = 14 := by
  unfold prev
  split
  · simp
  · rw [List.getD, List.getElem?_eq_getElem (by omega)]
    exact h _ (List.getElem_mem _)

set_option maxHeartbeats 4000000 in
set_option maxRecDepth 100000 in
theorem before_any (A : Option Addr) (xs : List (List Int)) (c i : Nat) (w : World) (hx : EntAt w A xs) (hi : i ≤ xs.length) (hn : xs.length ≤ 4000) :
    Calls Try.prog 15 #[.slice A xs.length c, .int .i64 i] w fun e w' => e = .returned (.agg (icells (prev xs i)).toArray) ∧ Below w.heap.size w w' := by
  have HX := hid hx; clear hx
  by_cases h0 : i = 0
  · subst h0
    go_enter Try.func15, Try.ntmps15
    go_wp2
    exact bodyPost_ret (results_cell_row rfl _ _ w.heap.size 43 _ (0, 0) _ rfl (heap_alloc_new w _) Try.underlying43 rfl (by kernel_rfl)) rfl ⟨rfl, Below.grow (Below.refl _ _) _⟩
  · obtain ⟨hl, b, rfl, hr⟩ := HX.out (i - 1) (xs.getD (i - 1) []) (by rw [List.getD, List.getElem?_eq_getElem (by omega)]; rfl)
    have hp : prev xs i = xs.getD (i - 1) [] := by unfold prev; rw [if_neg h0]
    rw [← hp] at hl hr
    clear hp
    have hbw : b < w.heap.size := World.block_lt_of_cell? w _ (hr 0 _ (List.getElem?_eq_getElem (by rw [icells_len]; omega)))
    have HR := hid hr; clear hr
    have HL := hid hl; clear hl
    have hne : ((i : Int) == 0) = false := by rw [beq_eq_false_iff_ne]; omega
    have hi0 : (0 : Int) ≤ (i : Int) - 1 := by omega
    have hi1 : (i : Int) - 1 < (xs.length : Int) := by omega
    have hin : ((i : Int) - 1).toNat = i - 1 := by omega
    have H0 := hid h0; clear h0
    have HSZ : Hid ((Try.prog.info? 43).map (·.size) = some (icells (prev xs i)).length) := hid (by rw [icells_len, HL.out]; exact size75)
    have HNZ : Hid ((icells (prev xs i)).toArray.size = 14) := hid (by simp [icells_len, HL.out])
    have HSA : Hid ((Try.prog.info? 43).map (·.size) = some (icells (prev xs i)).toArray.size) := hid (by rw [HNZ.out]; exact size75)
    have HON : Hid ((icells (prev xs i)).toArray.toList.all (·.oneCell') = true) := hid (by simp; exact icells_one _)
    generalize icells (prev xs i) = zc at *
    go_enter Try.func15, Try.ntmps15
    go_wp2_with (first | (refine wpList_load_mid rfl 43 _ rfl b ((i - 1) * 14) rfl zc _ (rangeAt_below HR.out (Below.grow (Below.refl _ _) _)) Try.underlying43 rfl HSZ.out ?_) | (refine wpList_store_new rfl 43 _ _ rfl _ zc.toArray rfl rfl HSA.out (by rw [HNZ.out]; rfl) HON.out ?_))
    exact bodyPost_ret (results_cell_row rfl _ _ w.heap.size 43 _ (0, 0) _ rfl (heap_alloc_new w _) Try.underlying43 rfl HSA.out) rfl ⟨rfl, Below.grow (Below.refl _ _) _⟩
end Go.Proofs.Ytmogoaceangblaa
