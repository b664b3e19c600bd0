/- chiplog.again finds the longest repeat, and the least distance of such. -/
import Derived.Test.YtmogoaceangblaaPackSpec
namespace Go.Proofs.Ytmogoaceangblaa
open Go.RowKit

/-- A long array is read in a region that only reads. -/
theorem quiet_load_mid {P : Program} {C : World → Prop} {a : Act} {o : Oper} {K : Act → Prop} (ty : TypeId) (x : Operand) (ho : o.op = .load ty x) (b off : Nat) (hx : a.eval x = .pointer (some ⟨b, off, none⟩))
    (cs : List Value) (d : TypeDesc) (hr : ∀ w, C w → w.rangeAt b off cs) (hu : P.underlying ty = some d) (hd : d.isRow = true) (hi : (P.info? ty).map (·.size) = some cs.length)
    (hk : K (a.put o.dst (.agg cs.toArray))) : o.quiet P a C K :=
  ⟨_, fun w hw => by
    unfold Oper.quietAt execOp
    simp only [ho, hx, Instr.loadAt, Instr.sureAddr, Sem.run_bind, Sem.run_pure, Result.andThen_ok, run_loadVar_mid w b off ty cs d (hr w hw) hu hd hi]
    exact ⟨rfl, rfl⟩, hk⟩
theorem rangeAt_drewN {w : World} {b o : Nat} {cs : List Value} (h : w.rangeAt b o cs) (n : Nat) : (w.drewN n).rangeAt b o cs := fun j v hj => h j v hj

set_option maxHeartbeats 8000000 in
set_option maxRecDepth 100000 in
theorem again_any (A : Option Addr) (xs : List (List Int)) (c i : Nat) (w : World) (hx : EntAt w A xs) (hi : i ≤ xs.length) (hn : xs.length ≤ 4000) :
    Calls Try.prog 13 #[.slice A xs.length c, .int .i64 i] w fun e w' => e = .returned (.tuple #[.int .i64 ((bestTo xs i (min 255 i)).1 : Nat), .int .i64 ((bestTo xs i (min 255 i)).2 : Nat)]) ∧ Below w.heap.size w w' := by
  have HX := hid hx; clear hx
  have hgd : Try.prog.eqGuardType Try.prog.depth 43 = false := by kernel_rfl
  have hi0 : (0 : Int) ≤ (i : Int) := Int.natCast_nonneg _
  go_enter Try.func13, Try.ntmps13
  go_wp2
  go_loopg [4, 5, 6] 255 (fun g v4 v5 v6 wr => ∃ d l s : Nat, d ≤ 255 ∧ d ≤ i ∧ g = 255 - d ∧ v6 = .int .i64 ((d : Int) + 1) ∧ v4 = .int .i64 l ∧ v5 = .int .i64 s ∧ l ≤ 64 ∧ Hid (bestTo xs i d = (l, s)) ∧ Hid (Below w.heap.size w wr))
  case atStart => exact ⟨0, 0, 0, by omega, by omega, rfl, rfl, rfl, rfl, by omega, hid rfl, hid (Below.refl _ _)⟩
  case round =>
    obtain ⟨d, l, s, hd5, hdi, rfl, rfl, rfl, rfl, hl4, HBT, HB⟩ := hrel
    by_cases h5 : d < 255
    · by_cases hdi2 : d < i
      · have hd1 : decide ((d : Int) + 1 ≤ 255) = true := decide_eq_true (by omega)
        have hd2 : decide ((d : Int) + 1 ≤ (i : Int)) = true := decide_eq_true (by omega)
        go_wp2
        go_loopg [7] 64 (fun g v wi => ∃ n : Nat, n ≤ 64 ∧ g = 64 - n ∧ v = .int .i64 n ∧ Hid (upto (repAs xs i (d + 1)) (64 - n) n = repOf xs i (d + 1)) ∧ Hid (Below w.heap.size w wi))
        case atStart => exact ⟨0, by omega, rfl, rfl, hid rfl, HB⟩
        case round =>
          obtain ⟨n, hn6, rfl, rfl, HU, HB2⟩ := hrel
          clear hd1 hd2
          have hn0 : (0 : Int) ≤ (n : Int) := Int.natCast_nonneg _
          by_cases h6 : n < 64
          · have hd1 : decide ((n : Int) < 64) = true := decide_eq_true (by omega)
            obtain ⟨p, hp⟩ : ∃ p : Nat, p = i + n := ⟨_, rfl⟩
            have hwi : IntKind.i64.wrap ((i : Int) + (n : Int)) = (p : Int) := by rw [IntKind.wrap_i64]; omega
            by_cases hlt : i + n < xs.length
            · obtain ⟨hl, b, rfl, hr⟩ := (HX.out.below HB2.out) (i + n) (xs.getD (i + n) []) (by rw [List.getD, List.getElem?_eq_getElem hlt]; rfl)
              obtain ⟨hl', b', hbb, hr'⟩ := (HX.out.below HB2.out) (i + n - (d + 1)) (xs.getD (i + n - (d + 1)) []) (by rw [List.getD, List.getElem?_eq_getElem (by omega)]; rfl)
              cases hbb
              have HSQ : Hid (repAs xs i (d + 1) n = (xs.getD (i + n) [] == xs.getD (i + n - (d + 1)) [])) := hid (by unfold repAs; rw [decide_eq_true hlt]; rfl)
              have heq := run_eql75 (xs.getD (i + n) []) (xs.getD (i + n - (d + 1)) []) hl hl'
              have hs1 : Hid ((Try.prog.info? 43).map (·.size) = some (icells (xs.getD (i + n) [])).length) := hid (by rw [icells_len, hl]; exact size75)
              have hs2 : Hid ((Try.prog.info? 43).map (·.size) = some (icells (xs.getD (i + n - (d + 1)) [])).length) := hid (by rw [icells_len, hl']; exact size75)
              obtain ⟨j, hj⟩ : ∃ j : Nat, j = p - (d + 1) := ⟨_, rfl⟩
              have hd2 : decide ((p : Int) < (xs.length : Int)) = true := decide_eq_true (by omega)
              have hwj : IntKind.i64.wrap ((p : Int) - ((d : Int) + 1)) = (j : Int) := by rw [IntKind.wrap_i64]; omega
              have hge : (0 : Int) ≤ (p : Int) := by omega
              have hlt' : (p : Int) < (xs.length : Int) := by omega
              have hge2 : (0 : Int) ≤ (j : Int) := by omega
              have hlt2 : (j : Int) < (xs.length : Int) := by omega
              rw [← hp, ← hj] at HSQ hs2 heq hr'
              rw [← hp] at hs1 hr
              clear hl hl'
              rw [← hp] at hlt
              have HPJ := hid (And.intro hp hj); clear hp hj
              have HR1 := hid hr; have HR2 := hid hr'; clear hr hr'
              cases hq : (xs.getD p [] == xs.getD j []) with
              | true =>
                rw [hq] at heq
                have HQ := hid hq; clear hq
                generalize xs.getD p [] = z at *
                generalize xs.getD j [] = y at *
                go_wp2_with fail
                refine wp_region_quiet_lit (by kernel_rfl) (by kernel_rfl) ?_
                repeat (first
                  | go_big_quiet_skip
                  | (go_big_quiet_want; refine quiet_load_mid 43 _ (by rfl) b (p * 14) (by rfl) (icells z) _ (fun w hw => by obtain ⟨k, rfl⟩ := hw; exact rangeAt_drewN HR1.out k) Try.underlying43 rfl hs1.out ?_; (try simp only [Act.put, List.setIfInBounds_toArray, List.set_cons_zero, List.set_cons_succ]); go_big_quiet_on)
                  | (go_big_quiet_want; refine quiet_load_mid 43 _ (by rfl) b (j * 14) (by rfl) (icells y) _ (fun w hw => by obtain ⟨k, rfl⟩ := hw; exact rangeAt_drewN HR2.out k) Try.underlying43 rfl hs2.out ?_; (try simp only [Act.put, List.setIfInBounds_toArray, List.set_cons_zero, List.set_cons_succ]); go_big_quiet_on)
                  | go_big_quiet_step (fail))
                clear heq
                refine wpQuiet_nil ?_
                intro _ hw'
                obtain ⟨nq, hw''⟩ := hw'
                subst hw''
                have HB3 : Hid (Below w.heap.size w (wr.drewN nq)) := hid (below_drewN HB2.out nq)
                go_wp2
                go_roundg (64 - (n + 1))
                case measure => omega
                case rel =>
                  refine ⟨n + 1, by omega, rfl, by go_num, hid ?_, HB3.out⟩
                  rw [← HU.out, show 64 - n = (64 - (n + 1)) + 1 by omega]
                  exact (upto_yes (HSQ.out.trans HQ.out)).symm
              | false =>
                rw [hq] at heq
                have HQ := hid hq; clear hq
                generalize xs.getD p [] = z at *
                generalize xs.getD j [] = y at *
                go_wp2_with fail
                refine wp_region_quiet_lit (by kernel_rfl) (by kernel_rfl) ?_
                repeat (first
                  | go_big_quiet_skip
                  | (go_big_quiet_want; refine quiet_load_mid 43 _ (by rfl) b (p * 14) (by rfl) (icells z) _ (fun w hw => by obtain ⟨k, rfl⟩ := hw; exact rangeAt_drewN HR1.out k) Try.underlying43 rfl hs1.out ?_; (try simp only [Act.put, List.setIfInBounds_toArray, List.set_cons_zero, List.set_cons_succ]); go_big_quiet_on)
                  | (go_big_quiet_want; refine quiet_load_mid 43 _ (by rfl) b (j * 14) (by rfl) (icells y) _ (fun w hw => by obtain ⟨k, rfl⟩ := hw; exact rangeAt_drewN HR2.out k) Try.underlying43 rfl hs2.out ?_; (try simp only [Act.put, List.setIfInBounds_toArray, List.set_cons_zero, List.set_cons_succ]); go_big_quiet_on)
                  | go_big_quiet_step (fail))
                refine wpQuiet_nil ?_
                intro _ hw'
                obtain ⟨nq, hw''⟩ := hw'
                subst hw''
                clear heq
                have HR : Hid (n = repOf xs i (d + 1)) := hid (by rw [← HU.out, upto_no (HSQ.out.trans HQ.out)])
                have HB3 : Hid (Below w.heap.size w (wr.drewN nq)) := hid (below_drewN HB2.out nq)
                clear hs1 hs2 hwi hwj hd1 hd2
                by_cases hgt : l < n
                · have hd3 : decide ((l : Int) < (n : Int)) = true := decide_eq_true (by omega)
                  go_wp2
                  go_roundg (255 - (d + 1))
                  case measure => omega
                  case rel => exact ⟨d + 1, n, d + 1, by omega, by omega, rfl, by go_num, rfl, by go_num, by omega, hid (by rw [bestTo, HBT.out, ← HR.out, if_pos hgt]), HB3.out⟩
                · have hd3 : decide ((l : Int) < (n : Int)) = false := decide_eq_false (by omega)
                  go_wp2
                  go_roundg (255 - (d + 1))
                  case measure => omega
                  case rel => exact ⟨d + 1, l, s, by omega, by omega, rfl, by go_num, rfl, rfl, by omega, hid (by rw [bestTo, HBT.out, ← HR.out, if_neg hgt]), HB3.out⟩
            · have HSQ : Hid (repAs xs i (d + 1) n = false) := hid (by unfold repAs; rw [decide_eq_false hlt]; rfl)
              have hd2 : decide (p < xs.length) = false := decide_eq_false (by omega)
              have HP := hid hp; clear hp
              go_wp2_with fail
              go_quiet (fail)
              have HR : Hid (n = repOf xs i (d + 1)) := hid (by rw [← HU.out, upto_no HSQ.out])
              have HB3 : Hid (Below w.heap.size w (wr.drewN nq)) := hid (below_drewN HB2.out nq)
              clear hwi hd1 hd2 hlt
              by_cases hgt : l < n
              · have hd3 : decide ((l : Int) < (n : Int)) = true := decide_eq_true (by omega)
                go_wp2
                go_roundg (255 - (d + 1))
                case measure => omega
                case rel => exact ⟨d + 1, n, d + 1, by omega, by omega, rfl, by go_num, rfl, by go_num, by omega, hid (by rw [bestTo, HBT.out, ← HR.out, if_pos hgt]), HB3.out⟩
              · have hd3 : decide ((l : Int) < (n : Int)) = false := decide_eq_false (by omega)
                go_wp2
                go_roundg (255 - (d + 1))
                case measure => omega
                case rel => exact ⟨d + 1, l, s, by omega, by omega, rfl, by go_num, rfl, rfl, by omega, hid (by rw [bestTo, HBT.out, ← HR.out, if_neg hgt]), HB3.out⟩
          · obtain rfl : n = 64 := by omega
            have hd1 : decide (((64 : Nat) : Int) < 64) = false := by decide
            go_wp2_with fail
            go_quiet (fail)
            have HR : Hid (64 = repOf xs i (d + 1)) := hid (by rw [← HU.out]; rfl)
            have HB3 : Hid (Below w.heap.size w (wr.drewN nq)) := hid (below_drewN HB2.out nq)
            clear hd1
            by_cases hgt : l < 64
            · have hd3 : decide ((l : Int) < 64) = true := decide_eq_true (by omega)
              go_wp2
              go_roundg (255 - (d + 1))
              case measure => omega
              case rel => exact ⟨d + 1, 64, d + 1, by omega, by omega, rfl, by go_num, rfl, by go_num, by omega, hid (by rw [bestTo, HBT.out, ← HR.out, if_pos hgt]), HB3.out⟩
            · have hd3 : decide ((l : Int) < 64) = false := decide_eq_false (by omega)
              go_wp2
              go_roundg (255 - (d + 1))
              case measure => omega
              case rel => exact ⟨d + 1, l, s, by omega, by omega, rfl, by go_num, rfl, rfl, by omega, hid (by rw [bestTo, HBT.out, ← HR.out, if_neg hgt]), HB3.out⟩
      · obtain rfl : d = i := by omega
        have hd1 : decide ((d : Int) + 1 ≤ 255) = true := decide_eq_true (by omega)
        have hd2 : decide ((d : Int) + 1 ≤ (d : Int)) = false := decide_eq_false (by omega)
        go_wp2
        go_ret2
        have e : min 255 d = d := by omega
        exact ⟨by rw [e, HBT.out]; rfl, HB.out⟩
    · obtain rfl : d = 255 := by omega
      have hd1 : decide (((255 : Nat) : Int) + 1 ≤ 255) = false := by decide
      go_wp2
      go_ret2
      have e : min 255 i = 255 := by omega
      exact ⟨by rw [e, HBT.out]; rfl, HB.out⟩
end Go.Proofs.Ytmogoaceangblaa
