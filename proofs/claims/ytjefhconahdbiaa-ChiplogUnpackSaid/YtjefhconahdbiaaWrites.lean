/- chiplog.Writes counts, over all entries, the registers that differ from the entry before. -/
import Derived.Test.YtjefhconahdbiaaChanged
import Derived.Deep.RegionHeld3
namespace Go.Proofs.Ytjefhconahdbiaa
open Go.RowKit

def writesTo (xs : List (List Int)) : Nat → Nat
  | 0 => 0
  | k + 1 => writesTo xs k + (diffs (prev xs k) (xs.getD k [])).length
theorem writesTo_le (xs : List (List Int)) (k : Nat) : writesTo xs k ≤ 14 * k := by
  induction k with
  | zero => exact Nat.le_refl _
  | succ k ih =>
    have := diffsTo_le (prev xs k) (xs.getD k []) 14
    unfold writesTo diffs
    omega
def Written (xs : List (List Int)) (w : World) (e : Ending) (w' : World) : Prop :=
  e = .returned (.tuple #[.int .i64 (if okLog xs then (writesTo xs xs.length : Int) else 0), .int .i64 (if okLog xs then 0 else 1)]) ∧ Below w.heap.size w w'
theorem written_no {xs : List (List Int)} {w w' : World} (h : okLog xs = false) (hb : Below w.heap.size w w') : Written xs w (.returned (.tuple #[.int .i64 0, .int .i64 1])) w' := by
  unfold Written; rw [h]; exact ⟨rfl, hb⟩
theorem written_yes {xs : List (List Int)} {w w' : World} (h : okLog xs = true) (hb : Below w.heap.size w w') : Written xs w (.returned (.tuple #[.int .i64 (writesTo xs xs.length : Int), .int .i64 0])) w' := by
  unfold Written; rw [h]; exact ⟨rfl, hb⟩
theorem okLog_len {xs : List (List Int)} (h : okLog xs = true) : xs.length ≤ 4000 := by unfold okLog at h; simp at h; exact h.1
theorem okLog_14 {xs : List (List Int)} (h : okLog xs = true) : ∀ z ∈ xs, z.length = 14 := by
  intro z hz
  unfold okLog at h
  rw [Bool.and_eq_true, List.all_eq_true] at h
  exact right_14 (h.2 z hz)

set_option maxHeartbeats 4000000 in
set_option maxRecDepth 100000 in
theorem writes_any (A : Option Addr) (xs : List (List Int)) (c : Nat) (w : World) (hx : LogAt w A xs) :
    Calls Try.prog 21 #[.slice A xs.length c] w (Written xs w) := by
  have HX := hid hx; clear hx
  cases hok : okLog xs with
  | false =>
    have HOK := hid hok; clear hok
    go_enter Try.func21, Try.ntmps21
    go_wp2_with fail
    refine (entries_any A xs c _ HX.out).mono ?_
    rintro e w1 ⟨v, rfl, -, hv, hb⟩
    rw [HOK.out]
    obtain rfl := hv HOK.out
    have HB1 := hid hb; clear hb
    go_wp2
    go_ret2
    exact written_no HOK.out HB1.out
  | true =>
    have HN := hid (okLog_len hok)
    have H14 := hid (okLog_14 hok)
    have HOK := hid hok; clear hok
    go_enter Try.func21, Try.ntmps21
    go_wp2_with fail
    refine (entries_any A xs c _ HX.out).mono ?_
    rintro e w1 ⟨v, rfl, hv, -, hb⟩
    rw [HOK.out]
    obtain ⟨A', c', rfl, hent⟩ := hv HOK.out
    have HB1 := hid hb; clear hb
    have HE := hid hent; clear hent hv
    have hbw := HB1.out.size
    go_wp2
    go_loopw [6, 18] (fun m i wr => ∃ k : Nat, k ≤ xs.length ∧ i = .int .i64 k ∧ m = .int .i64 (writesTo xs k) ∧ Hid (Below w1.heap.size w1 wr)) (fun _ i _ => xs.length - (intOf i).toNat)
    case atStart => exact ⟨0, Nat.zero_le _, rfl, rfl, hid (Below.refl _ _)⟩
    case round =>
      obtain ⟨k, hk, rfl, rfl, HB⟩ := hrel
      by_cases hlt : k < xs.length
      · obtain ⟨hl, b, rfl, hr⟩ := (HE.out.below HB.out) k (xs.getD k []) (by rw [List.getD, List.getElem?_eq_getElem hlt]; rfl)
        have HR := hid hr; have HL := hid hl; clear hr hl
        have HW : Hid (writesTo xs (k + 1) = writesTo xs k + (diffs (prev xs k) (xs.getD k [])).length) := hid rfl
        have hwl := writesTo_le xs k
        have hk4 : k < 4000 := by have := HN.out; omega
        have HP : Hid ((prev xs k).length = 14) := hid (prev_len H14.out hk)
        have HSZ : Hid ((Try.prog.info? 75).map (·.size) = some (icells (xs.getD k [])).length) := hid (by rw [icells_len, HL.out]; exact size75)
        have HNZ : Hid ((icells (xs.getD k [])).toArray.size = 14) := hid (by simp only [List.size_toArray]; rw [icells_len, HL.out])
        have HSA : Hid ((Try.prog.info? 75).map (·.size) = some (icells (xs.getD k [])).toArray.size) := hid (by rw [HNZ.out]; exact size75)
        have HON : Hid ((icells (xs.getD k [])).toArray.toList.all (·.oneCell') = true) := hid (by simp; exact icells_one _)
        generalize writesTo xs k = m at *
        generalize xs.getD k [] = z at *
        have hk0 : (0 : Int) ≤ (k : Int) := Int.natCast_nonneg _
        have hk1 : (k : Int) < (xs.length : Int) := by omega
        go_wp2_with (first | (refine wpList_load_mid rfl 75 _ rfl b (k * 14) rfl (icells z) _ HR.out Try.underlying75 rfl HSZ.out ?_) | (refine wpList_store_new rfl 75 _ _ rfl _ (icells z).toArray rfl rfl HSA.out (by rw [HNZ.out]; rfl) HON.out ?_))
        generalize hw5 : wr.alloc (Obj.cells (icells z).toArray 75) = w5
        have HB5 : Hid (Below w1.heap.size w1 w5) := hid (by rw [← hw5]; exact Below.grow HB.out _)
        have hr5 : w5.rangeAt wr.heap.size 0 (icells z) := by rw [← hw5]; simpa using range_made wr (icells z).toArray 75
        have hlt5 : wr.heap.size < w5.heap.size := by rw [← hw5]; simp
        have HRS : Hid (∀ w', Below w5.heap.size w5 w' → w'.rangeAt wr.heap.size 0 (icells z)) := hid (fun w' h => rangeAt_below' hr5 h hlt5)
        have hsz := HSZ.out
        have hu75 := Try.underlying75
        clear hw5 hr5
        go_region_held3 (fun w' => w'.rangeAt wr.heap.size 0 (icells z) ∧ Below w5.heap.size w5 w') (first | (exact ⟨HRS.out _ (Below.refl _ _).drew, (Below.refl _ _).drew⟩) | (exact ⟨HRS.out _ (Below.step (by assumption) (by assumption)), Below.step (by assumption) (by assumption)⟩) | (obtain ⟨h1, h2⟩ := (by assumption : _ ∧ Below w5.heap.size w5 _); exact ⟨HRS.out _ (Below.step h2 (by assumption)), Below.step h2 (by assumption)⟩))
          ((first
            | (go_at_call 45; go_loud (refine (before_any _ xs _ k _ (HE.out.below (HB5.out.trans (Below.mono (by first | assumption | (exact And.right (by assumption))) HB5.out.size))) (by omega) HN.out).mono ?_; rintro e w' ⟨rfl, hb⟩))
            | (go_at_call 44; go_loud (refine (changed_any (prev xs k) z _ HP.out HL.out).mono ?_; rintro e w' ⟨v, rfl, ho, hb⟩; obtain ⟨A', cc, rfl, -⟩ := owned_form ho))))
        have HB6 : Hid (Below w1.heap.size w1 w') := hid (HB5.out.trans (Below.mono (And.right (by assumption)) HB5.out.size))
        have hdl : (diffs (prev xs k) z).length ≤ 14 := diffsTo_le _ _ _
        clear hsz hu75
        generalize (diffs (prev xs k) z).length = dl at *
        have HWR : Hid (IntKind.i64.wrap ((m : Int) + (dl : Int)) = ((m + dl : Nat) : Int)) := hid (by rw [IntKind.wrap_i64]; omega)
        go_wp2
        go_roundw
        case rel => exact ⟨k + 1, by omega, by go_num, by rw [HW.out, HWR.out], HB6.out⟩
        case measure => simp [intOf]; omega
      · obtain rfl : k = xs.length := by omega
        go_wp2
        go_ret2
        exact written_yes HOK.out (HB1.out.trans (Below.mono HB.out HB1.out.size))
end Go.Proofs.Ytjefhconahdbiaa
