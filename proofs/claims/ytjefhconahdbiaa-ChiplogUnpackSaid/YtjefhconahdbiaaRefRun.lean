/- The reference's run and repeat: how many entries are equal to the one before, or come again. -/
import Derived.Test.YtjefhconahdbiaaPackSpec
import Derived.Test.YtjefhconahdbiaaDiffer
import Derived.Test.YtjefhconahdbiaaShelf
import Derived.Deep.RegionHeld3
namespace Go.Proofs.Ytjefhconahdbiaa
open Go.RowKit

theorem eq_quiet (B1 B2 : Option Addr) (c1 c2 : Nat) (x y : List Int) (v : Bool) (hx : x.length = 14) (hy : y.length = 14) (hv : (x == y) = v) (w : World) (h1 : IntsAt w B1 x) (h2 : IntsAt w B2 y) :
    Calls Try.prog 39 #[.slice B1 14 c1, .slice B2 14 c2] w fun e w' => e = .returned (.bool v) ∧ ∃ q, w' = w.drewN q := by
  obtain ⟨b1, o1, rfl, r1⟩ := h1 (by omega)
  obtain ⟨b2, o2, rfl, r2⟩ := h2 (by omega)
  have hcell : ∀ (b o : Nat) (z : List Int), w.rangeAt b o (icells z) → ∀ j, j < z.length → w.cell? ⟨b, o + j, none⟩ = some (.int .i64 (z.getD j 0)) := by
    intro b o z hr j hj
    refine hr j _ (icells_at ?_)
    rw [List.getD, List.getElem?_eq_getElem hj]; rfl
  have h := Try.slices_Equal_int b1 o1 14 c1 b2 o2 14 c2 x y w (by omega) (by omega) (by omega) (by omega) (hcell _ _ _ r1) (hcell _ _ _ r2)
  rw [List.take_of_length_le (by omega), List.take_of_length_le (by omega), hv] at h
  exact h
theorem LogAt.row {w : World} {A : Option Addr} {xs : List (List Int)} (h : LogAt w A xs) (h14 : ∀ z ∈ xs, z.length = 14) {i : Nat} (hi : i < xs.length) :
    ∃ b off B c, A = some ⟨b, off, none⟩ ∧ w.cell? ⟨b, off + i, none⟩ = some (.slice B 14 c) ∧ IntsAt w B (xs.getD i []) ∧ (xs.getD i []).length = 14 := by
  obtain ⟨b, off, B, c, z, e, hz, h1, h2⟩ := h i hi
  have e2 : xs.getD i [] = z := by rw [List.getD, hz]; rfl
  have hl := h14 z (List.mem_of_getElem? hz)
  rw [e2]
  exact ⟨b, off, B, c, e, by rw [← hl]; exact h1, h2, hl⟩

set_option maxHeartbeats 4000000 in
set_option maxRecDepth 100000 in
theorem refrun_any (A : Option Addr) (xs : List (List Int)) (c i : Nat) (w : World) (hx : LogAt w A xs) (hi : i ≤ xs.length) (hn : xs.length ≤ 4000) (h14 : ∀ z ∈ xs, z.length = 14) :
    Calls Try.prog 78 #[.slice A xs.length c, .int .i64 i] w fun e w' => e = .returned (.int .i64 (sameLen xs i : Nat)) ∧ Below w.heap.size w w' := by
  have HX := hid hx; have H14 := hid h14; clear hx
  have HP := hid (prev_len h14 hi)
  clear h14
  have hi0 : (0 : Int) ≤ (i : Int) := Int.natCast_nonneg _
  have hwk : IntKind.i64.wrap ((i : Int) - 1) = (i : Int) - 1 := by rw [IntKind.wrap_i64]; omega
  go_enter Try.func78, Try.ntmps78
  go_wp2
  go_loopw [5] (fun v wr => ∃ n : Nat, n ≤ 127 ∧ v = .int .i64 n ∧ Hid (upto (sameAs xs i) (127 - n) n = sameLen xs i) ∧ Hid (Below w.heap.size w wr)) (fun v _ => 127 - (intOf v).toNat)
  case atStart => exact ⟨0, by omega, rfl, hid rfl, hid (Below.refl _ _)⟩
  case round =>
    obtain ⟨n, hn7, rfl, HU, HB⟩ := hrel
    have hn0 : (0 : Int) ≤ (n : Int) := Int.natCast_nonneg _
    by_cases h7 : n < 127
    · by_cases hlt : i + n < xs.length
      · obtain ⟨b, off, B, c', rfl, hcz, hrz, hl⟩ := (HX.out.below HB.out).row H14.out hlt
        have HSQ : Hid (sameAs xs i n = (xs.getD (i + n) [] == prev xs i)) := hid (by unfold sameAs; rw [decide_eq_true hlt]; rfl)
        obtain ⟨p, hp⟩ : ∃ p : Nat, p = i + n := ⟨_, rfl⟩
        have hwi : IntKind.i64.wrap ((i : Int) + (n : Int)) = (p : Int) := by rw [IntKind.wrap_i64]; omega
        rw [← hp] at HSQ hcz hrz hl hlt
        have hd1 : decide ((n : Int) < 127) = true := decide_eq_true (by omega)
        have hd2 : decide (p < xs.length) = true := decide_eq_true (by omega)
        have hge : (0 : Int) ≤ (p : Int) := by omega
        have hlt' : (p : Int) < (xs.length : Int) := by omega
        have HPI := hid hp; clear hp
        have HRZ := hid hrz; have HL := hid hl; have HCZ := hid hcz; clear hrz hl
        have HKP : Hid (∀ w', Below wr.heap.size wr w' → w'.cell? ⟨b, off + p, none⟩ = some (.slice B 14 c')) := hid (fun w' h => (h.cell (World.block_lt_of_cell? wr _ HCZ.out)).trans HCZ.out)
        clear hcz
        cases hq : (xs.getD p [] == prev xs i) with
        | true =>
          have HQ := hid hq; clear hq
          generalize xs.getD p [] = z at *
          go_wp2_with fail
          go_region_held3 (fun w' => w'.cell? ⟨b, off + p, none⟩ = some (.slice B 14 c') ∧ Below wr.heap.size wr w') (first | assumption | (exact ⟨HKP.out _ (Below.refl _ _).drew, (Below.refl _ _).drew⟩) | (obtain ⟨h1, h2⟩ := (by assumption : _ ∧ Below wr.heap.size wr _); exact ⟨HKP.out _ (Below.step h2 (by assumption)), Below.step h2 (by assumption)⟩))
            ((first
              | (go_at_call 71; go_loud (refine (refentry_any _ xs _ i _ (HX.out.below (HB.out.trans (Below.mono (And.right (by assumption)) HB.out.size))) (by omega) H14.out).mono ?_; rintro e w' ⟨B1, c1, rfl, hints, hb⟩))
              | (go_at_call 39; go_loud (refine (eq_quiet _ _ _ _ z (prev xs i) true HL.out HP.out HQ.out _ (HRZ.out.below (And.right (by assumption))) (by assumption)).mono ?_; rintro e w9 ⟨rfl, ⟨q, rfl⟩⟩; have hb : Below w'.heap.size w' (w'.drewN q) := below_drewN (Below.refl _ _) q))))
          have HB2 : Hid (Below w.heap.size w (w'.drewN q)) := hid (HB.out.trans (Below.mono (And.right (by assumption)) HB.out.size))
          go_wp2
          go_roundw
          case rel =>
            refine ⟨n + 1, by omega, by go_num, hid ?_, HB2.out⟩
            rw [← HU.out, show 127 - n = (127 - (n + 1)) + 1 by omega]
            exact (upto_yes (HSQ.out.trans HQ.out)).symm
          case measure => simp [intOf]; omega
        | false =>
          have HQ := hid hq; clear hq
          generalize xs.getD p [] = z at *
          go_wp2_with fail
          go_region_held3 (fun w' => w'.cell? ⟨b, off + p, none⟩ = some (.slice B 14 c') ∧ Below wr.heap.size wr w') (first | assumption | (exact ⟨HKP.out _ (Below.refl _ _).drew, (Below.refl _ _).drew⟩) | (obtain ⟨h1, h2⟩ := (by assumption : _ ∧ Below wr.heap.size wr _); exact ⟨HKP.out _ (Below.step h2 (by assumption)), Below.step h2 (by assumption)⟩))
            ((first
              | (go_at_call 71; go_loud (refine (refentry_any _ xs _ i _ (HX.out.below (HB.out.trans (Below.mono (And.right (by assumption)) HB.out.size))) (by omega) H14.out).mono ?_; rintro e w' ⟨B1, c1, rfl, hints, hb⟩))
              | (go_at_call 39; go_loud (refine (eq_quiet _ _ _ _ z (prev xs i) false HL.out HP.out HQ.out _ (HRZ.out.below (And.right (by assumption))) (by assumption)).mono ?_; rintro e w9 ⟨rfl, ⟨q, rfl⟩⟩; have hb : Below w'.heap.size w' (w'.drewN q) := below_drewN (Below.refl _ _) q))))
          have HB2 : Hid (Below w.heap.size w (w'.drewN q)) := hid (HB.out.trans (Below.mono (And.right (by assumption)) HB.out.size))
          go_wp2
          go_ret
          exact ⟨ret_int (by rw [← HU.out, upto_no (HSQ.out.trans HQ.out)]), HB2.out⟩
      · have HSQ : Hid (sameAs xs i n = false) := hid (by unfold sameAs; rw [decide_eq_false hlt]; rfl)
        have hd1 : decide ((n : Int) < 127) = true := decide_eq_true (by omega)
        have hd2 : decide ((i : Int) + (n : Int) < (xs.length : Int)) = false := decide_eq_false (by omega)
        have hwi : IntKind.i64.wrap ((i : Int) + (n : Int)) = (i : Int) + (n : Int) := by rw [IntKind.wrap_i64]; omega
        go_wp2_with fail
        go_quiet (fail)
        have HB2 := hid (below_drewN HB.out nq)
        go_wp2
        go_ret
        exact ⟨ret_int (by rw [← HU.out, upto_no HSQ.out]), HB2.out⟩
    · obtain rfl : n = 127 := by omega
      go_wp2_with fail
      go_quiet (fail)
      have HB2 := hid (below_drewN HB.out nq)
      go_wp2
      go_ret
      exact ⟨ret_int (by rw [← HU.out]; rfl), HB2.out⟩
set_option maxHeartbeats 8000000 in
set_option maxRecDepth 100000 in
theorem refrepeat_any (A : Option Addr) (xs : List (List Int)) (c i : Nat) (w : World) (hx : LogAt w A xs) (hi : i ≤ xs.length) (hn : xs.length ≤ 4000) (h14 : ∀ z ∈ xs, z.length = 14) :
    Calls Try.prog 79 #[.slice A xs.length c, .int .i64 i] w fun e w' => e = .returned (.tuple #[.int .i64 ((bestTo xs i (min 255 i)).1 : Nat), .int .i64 ((bestTo xs i (min 255 i)).2 : Nat)]) ∧ Below w.heap.size w w' := by
  have HX := hid hx; have H14 := hid h14; clear hx h14
  have hi0 : (0 : Int) ≤ (i : Int) := Int.natCast_nonneg _
  go_enter Try.func79, Try.ntmps79
  go_wp2
  go_loopg [6, 7, 8] 255 (fun g v4 v5 v6 wr => ∃ d l s : Nat, d ≤ 255 ∧ d ≤ i ∧ g = 255 - d ∧ v6 = .int .i64 ((d : Int) + 1) ∧ v4 = .int .i64 l ∧ v5 = .int .i64 s ∧ l ≤ 64 ∧ Hid (bestTo xs i d = (l, s)) ∧ Hid (Below w.heap.size w wr))
  case atStart => exact ⟨0, 0, 0, by omega, by omega, rfl, rfl, rfl, rfl, by omega, hid rfl, hid (Below.refl _ _)⟩
  case round =>
    obtain ⟨d, l, s, hd5, hdi, rfl, rfl, rfl, rfl, hl4, HBT, HB⟩ := hrel
    by_cases h5 : d < 255
    · by_cases hdi2 : d < i
      · have hd1 : decide ((d : Int) + 1 ≤ 255) = true := decide_eq_true (by omega)
        have hd2 : decide ((d : Int) + 1 ≤ (i : Int)) = true := decide_eq_true (by omega)
        go_wp2
        go_loopg [9] 64 (fun g v wi => ∃ n : Nat, n ≤ 64 ∧ g = 64 - n ∧ v = .int .i64 n ∧ Hid (upto (repAs xs i (d + 1)) (64 - n) n = repOf xs i (d + 1)) ∧ Hid (Below w.heap.size w wi))
        case atStart => exact ⟨0, by omega, rfl, rfl, hid rfl, HB⟩
        case round =>
          obtain ⟨n, hn6, rfl, rfl, HU, HB2⟩ := hrel
          clear hd1 hd2
          have hn0 : (0 : Int) ≤ (n : Int) := Int.natCast_nonneg _
          by_cases h6 : n < 64
          · have hd1 : decide ((n : Int) < 64) = true := decide_eq_true (by omega)
            obtain ⟨p, hp⟩ : ∃ p : Nat, p = i + n := ⟨_, rfl⟩
            have hwi : IntKind.i64.wrap ((i : Int) + (n : Int)) = (p : Int) := by rw [IntKind.wrap_i64]; omega
            by_cases hlt : i + n < xs.length
            · obtain ⟨b, off, B, c', rfl, hcz, hrz, hl⟩ := (HX.out.below HB2.out).row H14.out hlt
              obtain ⟨b', off', B', c'', hbb, hcz', hrz', hl'⟩ := (HX.out.below HB2.out).row H14.out (i := i + n - (d + 1)) (by omega)
              cases hbb
              have HSQ : Hid (repAs xs i (d + 1) n = (xs.getD (i + n) [] == xs.getD (i + n - (d + 1)) [])) := hid (by unfold repAs; rw [decide_eq_true hlt]; rfl)
              obtain ⟨j, hj⟩ : ∃ j : Nat, j = p - (d + 1) := ⟨_, rfl⟩
              have hd2 : decide (p < xs.length) = true := decide_eq_true (by omega)
              have hwj : IntKind.i64.wrap ((p : Int) - ((d : Int) + 1)) = (j : Int) := by rw [IntKind.wrap_i64]; omega
              have hge : (0 : Int) ≤ (p : Int) := by omega
              have hlt' : (p : Int) < (xs.length : Int) := by omega
              have hge2 : (0 : Int) ≤ (j : Int) := by omega
              have hlt2 : (j : Int) < (xs.length : Int) := by omega
              rw [← hp, ← hj] at HSQ hcz' hrz' hl'
              rw [← hp] at hcz hrz hl
              rw [← hp] at hlt
              have HPJ := hid (And.intro hp hj); clear hp hj
              have HR1 := hid hrz; have HR2 := hid hrz'; have HL1 := hid hl; have HL2 := hid hl'; clear hrz hrz' hl hl'
              cases hq : (xs.getD p [] == xs.getD j []) with
              | true =>
                have HQ := hid hq; clear hq
                generalize xs.getD p [] = z at *
                generalize xs.getD j [] = y at *
                have HEQ : Hid (∀ m, Calls Try.prog 39 #[.slice B 14 c', .slice B' 14 c''] (wr.drewN m) fun e w' => e = .returned (.bool true) ∧ ∃ q, w' = (wr.drewN m).drewN q) := hid (fun m => eq_quiet B B' c' c'' z y true HL1.out HL2.out HQ.out _ (HR1.out.below (below_drewN (Below.refl _ _) m)) (HR2.out.below (below_drewN (Below.refl _ _) m)))
                go_wp2_with fail
                go_quiet ((go_at_call 39; exact Calls.quiet_of (HEQ.out _)))
                have HB3 : Hid (Below w.heap.size w (wr.drewN nq)) := hid (below_drewN HB2.out nq)
                go_wp2
                go_roundg (64 - (n + 1))
                case measure => omega
                case rel =>
                  refine ⟨n + 1, by omega, rfl, by go_num, hid ?_, HB3.out⟩
                  rw [← HU.out, show 64 - n = (64 - (n + 1)) + 1 by omega]
                  exact (upto_yes (HSQ.out.trans HQ.out)).symm
              | false =>
                have HQ := hid hq; clear hq
                generalize xs.getD p [] = z at *
                generalize xs.getD j [] = y at *
                have HEQ : Hid (∀ m, Calls Try.prog 39 #[.slice B 14 c', .slice B' 14 c''] (wr.drewN m) fun e w' => e = .returned (.bool false) ∧ ∃ q, w' = (wr.drewN m).drewN q) := hid (fun m => eq_quiet B B' c' c'' z y false HL1.out HL2.out HQ.out _ (HR1.out.below (below_drewN (Below.refl _ _) m)) (HR2.out.below (below_drewN (Below.refl _ _) m)))
                go_wp2_with fail
                go_quiet ((go_at_call 39; exact Calls.quiet_of (HEQ.out _)))
                have HR : Hid (n = repOf xs i (d + 1)) := hid (by rw [← HU.out, upto_no (HSQ.out.trans HQ.out)])
                have HB3 : Hid (Below w.heap.size w (wr.drewN nq)) := hid (below_drewN HB2.out nq)
                clear hwi hwj hd1 hd2 hcz hcz'
                by_cases hgt : l < n
                · have hd3 : decide ((l : Int) < (n : Int)) = true := decide_eq_true (by omega)
                  go_wp2
                  go_roundg (255 - (d + 1))
                  case measure => omega
                  case rel => exact ⟨d + 1, n, d + 1, by omega, by omega, rfl, by go_num, rfl, by go_num, by omega, hid (by rw [bestTo, HBT.out, ← HR.out, if_pos hgt]), HB3.out⟩
                · have hd3 : decide ((l : Int) < (n : Int)) = false := decide_eq_false (by omega)
                  go_wp2
                  go_roundg (255 - (d + 1))
                  case measure => omega
                  case rel => exact ⟨d + 1, l, s, by omega, by omega, rfl, by go_num, rfl, rfl, by omega, hid (by rw [bestTo, HBT.out, ← HR.out, if_neg hgt]), HB3.out⟩
            · have HSQ : Hid (repAs xs i (d + 1) n = false) := hid (by unfold repAs; rw [decide_eq_false hlt]; rfl)
              have hd2 : decide (p < xs.length) = false := decide_eq_false (by omega)
              have HP := hid hp; clear hp
              go_wp2_with fail
              go_quiet (fail)
              have HR : Hid (n = repOf xs i (d + 1)) := hid (by rw [← HU.out, upto_no HSQ.out])
              have HB3 : Hid (Below w.heap.size w (wr.drewN nq)) := hid (below_drewN HB2.out nq)
              clear hwi hd1 hd2 hlt
              by_cases hgt : l < n
              · have hd3 : decide ((l : Int) < (n : Int)) = true := decide_eq_true (by omega)
                go_wp2
                go_roundg (255 - (d + 1))
                case measure => omega
                case rel => exact ⟨d + 1, n, d + 1, by omega, by omega, rfl, by go_num, rfl, by go_num, by omega, hid (by rw [bestTo, HBT.out, ← HR.out, if_pos hgt]), HB3.out⟩
              · have hd3 : decide ((l : Int) < (n : Int)) = false := decide_eq_false (by omega)
                go_wp2
                go_roundg (255 - (d + 1))
                case measure => omega
                case rel => exact ⟨d + 1, l, s, by omega, by omega, rfl, by go_num, rfl, rfl, by omega, hid (by rw [bestTo, HBT.out, ← HR.out, if_neg hgt]), HB3.out⟩
          · obtain rfl : n = 64 := by omega
            have hd1 : decide (((64 : Nat) : Int) < 64) = false := by decide
            go_wp2_with fail
            go_quiet (fail)
            have HR : Hid (64 = repOf xs i (d + 1)) := hid (by rw [← HU.out]; rfl)
            have HB3 : Hid (Below w.heap.size w (wr.drewN nq)) := hid (below_drewN HB2.out nq)
            clear hd1
            by_cases hgt : l < 64
            · have hd3 : decide ((l : Int) < 64) = true := decide_eq_true (by omega)
              go_wp2
              go_roundg (255 - (d + 1))
              case measure => omega
              case rel => exact ⟨d + 1, 64, d + 1, by omega, by omega, rfl, by go_num, rfl, by go_num, by omega, hid (by rw [bestTo, HBT.out, ← HR.out, if_pos hgt]), HB3.out⟩
            · have hd3 : decide ((l : Int) < 64) = false := decide_eq_false (by omega)
              go_wp2
              go_roundg (255 - (d + 1))
              case measure => omega
              case rel => exact ⟨d + 1, l, s, by omega, by omega, rfl, by go_num, rfl, rfl, by omega, hid (by rw [bestTo, HBT.out, ← HR.out, if_neg hgt]), HB3.out⟩
      · obtain rfl : d = i := by omega
        have hd1 : decide ((d : Int) + 1 ≤ 255) = true := decide_eq_true (by omega)
        have hd2 : decide ((d : Int) + 1 ≤ (d : Int)) = false := decide_eq_false (by omega)
        go_wp2
        go_ret2
        have e : min 255 d = d := by omega
        exact ⟨by rw [e, HBT.out]; rfl, HB.out⟩
    · obtain rfl : d = 255 := by omega
      have hd1 : decide (((255 : Nat) : Int) + 1 ≤ 255) = false := by decide
      go_wp2
      go_ret2
      have e : min 255 i = 255 := by omega
      exact ⟨by rw [e, HBT.out]; rfl, HB.out⟩
end Go.Proofs.Ytjefhconahdbiaa
