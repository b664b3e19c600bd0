/- chiplog.entries returns the rows of a log as arrays, or that it is none. -/
import Derived.Test.YtmogoaceangblaaLog
namespace Go.Proofs.Ytmogoaceangblaa
open Go.RowKit

def Entered (xs : List (List Int)) (w : World) (e : Ending) (w' : World) : Prop :=
  ∃ v, e = .returned (.tuple #[v, .bool (okLog xs)]) ∧ (okLog xs = true → ∃ A c, v = .slice A xs.length c ∧ EntAt w' A xs) ∧ (okLog xs = false → v = .slice none 0 0) ∧ Below w.heap.size w w'
theorem entered_no {xs : List (List Int)} {w w' : World} (h : okLog xs = false) (hb : Below w.heap.size w w') : Entered xs w (.returned (.tuple #[.slice none 0 0, .bool false])) w' :=
  by
  unfold Entered
  rw [h]
  exact ⟨_, rfl, (fun h' => by cases h'), fun _ => rfl, hb⟩
theorem all_false_of {α : Type} {p : α → Bool} {xs : List α} {k : Nat} {z : α} (h : xs[k]? = some z) (hp : p z = false) : xs.all p = false := by
  rw [List.all_eq_false]
  exact ⟨z, List.mem_of_getElem? h, by simp [hp]⟩
theorem all_take_succ {α : Type} {p : α → Bool} {xs : List α} {k : Nat} {z : α} (h : xs[k]? = some z) (ha : (xs.take k).all p = true) (hp : p z = true) : (xs.take (k + 1)).all p = true := by
  rw [List.take_add_one, h, Option.toList_some, List.all_append, ha]
  simp [hp]
theorem okLog_no {xs : List (List Int)} {k : Nat} {z : List Int} (h : xs[k]? = some z) (hp : right z = false) : okLog xs = false := by
  unfold okLog
  rw [all_false_of h hp, Bool.and_false]
theorem right_no {z : List Int} {j : Nat} {v : Int} (h : z[j]? = some v) (hp : inr v 0 255 = false) : right z = false := by
  unfold right
  rw [all_false_of (p := fun v => inr v 0 255) h hp, Bool.and_false]
theorem inr_lo {v : Int} (h : v < 0) : inr v 0 255 = false := by simp [inr]; omega
theorem inr_hi {v : Int} (h : 255 < v) : inr v 0 255 = false := by simp [inr]; omega
theorem inr_yes {v : Int} (h : ¬ v < 0) (h' : ¬ 255 < v) : inr v 0 255 = true := by simp [inr]; omega

theorem right_14 {z : List Int} (h : right z = true) : z.length = 14 := by unfold right at h; simp at h; exact h.1
theorem right_len {xs : List (List Int)} {k i : Nat} {y : List Int} (h : (xs.take k).all right = true) (hi : i < k + 1) (hy : xs[i]? = some y) (he : i ≠ k) : y.length = 14 := by
  rw [List.all_eq_true] at h
  refine right_14 (h y (List.mem_of_getElem? (i := i) ?_))
  rw [List.getElem?_take, if_pos (by omega)]
  exact hy

set_option maxHeartbeats 4000000 in
set_option maxRecDepth 100000 in
theorem entries_any (A : Option Addr) (xs : List (List Int)) (c : Nat) (w : World) (hx : LogAt w A xs) :
    Calls Try.prog 11 #[.slice A xs.length c] w (Entered xs w) := by
  have HX := hid hx; clear hx
  by_cases hl : 4000 < xs.length
  · have hl' : decide (4000 < (xs.length : Int)) = true := decide_eq_true (by omega)
    have HL := hid hl; clear hl
    go_enter Try.func11, Try.ntmps11
    go_wp2
    go_ret2
    exact entered_no (by have := HL.out; unfold okLog; rw [decide_eq_false (by omega)]; rfl) (Below.refl _ _)
  · have hl' : decide (4000 < (xs.length : Int)) = false := decide_eq_false (by omega)
    have HL := hid hl; clear hl
    obtain ⟨i0, hi, hz0, hz1, hz2⟩ := info_parts info75
    have HI := hid hi; have HZ0 := hid hz0; have HZ1 := hid hz1; have HZ2 := hid hz2; clear hi hz0 hz1 hz2
    go_enter Try.func11, Try.ntmps11
    go_wp2_with (first | (at_make; refine wpList_make_rows rfl _ _ 35 rfl 43 i0 _ 14 Try.underlying35 HI.out HZ0.out HZ1.out .i64 .i64 xs.length rfl rfl (by rw [HZ2.out]; have := HL.out; omega) (by have := HL.out; omega) ?_))
    go_loopg [17] xs.length (fun g i wr => ∃ k : Nat, k ≤ xs.length ∧ g = xs.length - k ∧ i = .int .i64 k ∧ Hid (Below w.heap.size w wr) ∧ Hid (wr.there w.heap.size 0 (xs.length * 14)) ∧ Hid ((xs.take k).all right = true) ∧ Hid (∀ i z, i < k → xs[i]? = some z → wr.rangeAt w.heap.size (i * 14) (icells z)))
    case atStart => exact ⟨0, Nat.zero_le _, rfl, rfl, hid (Below.grow (Below.refl _ _) _), hid (there_made _ _ _ _ _ _ (by omega)), hid rfl, hid (fun i z hi => by omega)⟩
    case round =>
      obtain ⟨k, hk, rfl, rfl, HB, HT, HR, HE⟩ := hrel
      by_cases hlt : k < xs.length
      · obtain ⟨b, off, B, c', z, rfl, hxk, hc0, hc2⟩ := HX.out k hlt
        have hc1 := (HB.out.cell (World.block_lt_of_cell? w _ hc0)).trans hc0; clear hc0
        have HXK := hid hxk; have HC2 := hid hc2; clear hxk hc2
        by_cases h14 : z.length = 14
        · obtain ⟨b', off', rfl, hra⟩ := HC2.out (by omega)
          have HLT : Hid (b' < w.heap.size) := hid (by
            have h1 := hra 0 _ (List.getElem?_eq_getElem (by rw [icells_len]; omega))
            exact World.block_lt_of_cell? w _ h1)
          have HRA := hid (rangeAt_below hra HB.out); clear hra
          rw [h14] at hc1
          have H14 := hid h14; clear h14
          have hk0 : (0 : Int) ≤ (k : Int) := Int.natCast_nonneg _
          have hk1 : (k : Int) < (xs.length : Int) := by omega
          have HTK : Hid (wr.there w.heap.size (k * 14) 14) := hid (fun j hj => by have := HT.out (k * 14 + j) (by omega); rwa [Nat.zero_add] at this)
          have HNZ : Hid ((icells z).toArray.size = 14) := hid (by simp [icells, H14.out])
          have HSZ : Hid ((Try.prog.info? 43).map (·.size) = some (icells z).toArray.size) := hid (by rw [HNZ.out]; exact size75)
          have HSZ' : Hid ((Try.prog.info? 43).map (·.size) = some (icells z).length) := hid (by rw [icells_len, H14.out]; exact size75)
          have HON := hid (icells_one z)
          generalize hzc : icells z = zc at *
          have HZC := hid hzc; clear hzc
          go_wp2_with (first | (refine wpList_array_at rfl 43 _ rfl _ _ _ 14 3 rfl Try.underlying43 (by omega) ?_) | (refine wpList_load_mid rfl 43 _ rfl b' off' rfl zc _ HRA.out Try.underlying43 rfl HSZ'.out ?_) | (refine wpList_store_mid rfl 43 _ _ rfl w.heap.size (k * 14) zc.toArray rfl rfl (by rw [HNZ.out]; exact HTK.out) HSZ.out (all_oneCell_toArray HON.out) ?_))
          generalize hw2 : wr.setCells w.heap.size (k * 14) zc = w2
          have hz := HZC.out
          have HB2 : Hid (Below w.heap.size w w2) := hid (by rw [← hw2]; exact Below_setCells (Nat.le_refl _) _ _ _ HB.out)
          have HT2 : Hid (w2.there w.heap.size 0 (xs.length * 14)) := hid (by rw [← hw2]; exact World.there_setCells HT.out _ _ _)
          have HRA2 : Hid (w2.rangeAt b' off' zc) := hid (by rw [← hw2]; exact World.rangeAt_setCells_apart HRA.out _ _ _ (Or.inl (by have := HLT.out; omega)))
          have HE2 : Hid (∀ i z, i < k + 1 → xs[i]? = some z → w2.rangeAt w.heap.size (i * 14) (icells z)) := hid (by
            intro i y hi hy
            rw [← hw2]
            by_cases e : i = k
            · subst e
              rw [HXK.out] at hy; cases hy
              rw [hz]
              exact World.rangeAt_setCells_same _ _ _ _ (by have := HNZ.out; simp at this; rw [this]; exact HTK.out)
            · refine World.rangeAt_setCells_apart (HE.out i y (by omega) hy) _ _ _ (Or.inr (Or.inl ?_))
              rw [icells_len, right_len HR.out hi hy e]; omega)
          clear hw2 HB HT HE HRA HTK HSZ HSZ' HON hc1
          go_loopg [33] 14 (fun g i wi => wi = w2 ∧ ∃ j : Nat, j ≤ 14 ∧ g = 14 - j ∧ i = .int .i64 j ∧ Hid (∀ t v, t < j → z[t]? = some v → inr v 0 255 = true))
          case atStart => exact ⟨rfl, 0, by omega, rfl, rfl, hid (fun t v h => by omega)⟩
          case round =>
            obtain ⟨rfl, j, hj, rfl, rfl, HJ⟩ := hrel
            by_cases hjl : j < 14
            · obtain ⟨v, hv⟩ : ∃ v, z[j]? = some v := ⟨_, List.getElem?_eq_getElem (by have := H14.out; omega)⟩
              have hcv := HRA2.out j (.int .i64 v) (by rw [← hz]; exact icells_at hv)
              have HV := hid hv; clear hv
              have hj0 : (0 : Int) ≤ (j : Int) := Int.natCast_nonneg _
              have hj1 : (j : Int) < 14 := by omega
              have HZ := hid hz; clear hz
              by_cases hv0 : v < 0
              · have hd : decide (v < 0) = true := decide_eq_true hv0
                have HV0 := hid hv0; clear hv0
                go_wp2
                go_ret2
                exact entered_no (okLog_no HXK.out (right_no HV.out (inr_lo HV0.out))) HB2.out
              · by_cases hv1 : 255 < v
                · have hd : decide (v < 0) = false := decide_eq_false hv0
                  have hd' : decide (255 < v) = true := decide_eq_true hv1
                  have HV1 := hid hv1; clear hv1 hv0
                  go_wp2
                  go_ret2
                  exact entered_no (okLog_no HXK.out (right_no HV.out (inr_hi HV1.out))) HB2.out
                · have hd : decide (v < 0) = false := decide_eq_false hv0
                  have hd' : decide (255 < v) = false := decide_eq_false hv1
                  have HV0 := hid hv0; have HV1 := hid hv1; clear hv1 hv0
                  go_wp2
                  go_roundg (14 - (j + 1))
                  case measure => omega
                  case rel =>
                    refine ⟨rfl, j + 1, by omega, rfl, by go_num, hid (fun t y ht hy => ?_)⟩
                    by_cases e : t = j
                    · subst e; rw [HV.out] at hy; cases hy; exact inr_yes (by have := HV0.out; omega) (by have := HV1.out; omega)
                    · exact HJ.out t y (by omega) hy
            · obtain rfl : j = 14 := by omega
              have HZ := hid hz; clear hz
              have hk4 : k < 4000 := by have := HL.out; omega
              go_wp2
              go_roundg (xs.length - (k + 1))
              case measure => omega
              case rel =>
                refine ⟨k + 1, by omega, rfl, by go_num, HB2.out, HT2.out, hid (all_take_succ HXK.out HR.out ?_), HE2.out⟩
                unfold right
                rw [beq_iff_eq.2 H14.out, Bool.true_and, List.all_eq_true]
                intro v hv
                obtain ⟨t, ht, rfl⟩ := List.getElem_of_mem hv
                exact HJ.out t _ (by have := H14.out; omega) (List.getElem?_eq_getElem ht)
        · have hne : ((z.length : Int) != 14) = true := by rw [bne_iff_ne]; omega
          have H14 := hid h14; clear h14
          go_wp2
          go_ret2
          exact entered_no (okLog_no HXK.out (by have := H14.out; unfold right; rw [beq_eq_false_iff_ne.2 this]; rfl)) HB.out
      · obtain rfl : k = xs.length := by omega
        go_wp2
        go_ret2
        have hr : okLog xs = true := by
          have h1 := HR.out; rw [List.take_length] at h1
          unfold okLog; rw [h1, decide_eq_true (by have := HL.out; omega)]; rfl
        unfold Entered
        rw [hr]
        refine ⟨_, rfl, fun _ => ⟨_, _, rfl, fun i z hz => ⟨?_, w.heap.size, rfl, HE.out i z ((List.getElem?_eq_some_iff.1 hz).1) hz⟩⟩, (fun h => by cases h), HB.out⟩
        have h1 := HR.out; rw [List.take_length, List.all_eq_true] at h1
        have h2 := h1 z (List.mem_of_getElem? hz)
        unfold right at h2
        simp at h2
        exact h2.1
end Go.Proofs.Ytmogoaceangblaa
