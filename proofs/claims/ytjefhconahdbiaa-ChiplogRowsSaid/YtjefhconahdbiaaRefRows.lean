/- The reference's Rows writes the same lines. -/
import Derived.Test.YtjefhconahdbiaaRowsOf
import Derived.Test.YtjefhconahdbiaaDiffer
import Derived.Deep.RegionHeld3
import Derived.Deep.AppendLies
import Derived.StillTactics
namespace Go.Proofs.Ytjefhconahdbiaa
open Go.RowKit

theorem run_convert_own {w : World} {base n : Nat} {v : Value} {l : List UInt8} (h : w.ownsRow base 5 1 v n (Lib.byteCells l)) : (convert 55 9 v).run Try.prog w = .ok (.string ⟨l.toArray⟩) w := by
  have hl := h.1
  rw [Lib.byteCells_length, Nat.mul_one] at hl
  subst hl
  rcases h.2 with ⟨rfl, h0⟩ | ⟨g, cap, cur, rfl, h2⟩
  · have : l = [] := List.eq_nil_of_length_eq_zero h0
    subst this
    exact run_convert_bytes_nil w 55 5 Try.underlying55 Try.underlying5 0 0 9 Try.underlying9
  · refine run_convert_bytes_back w 55 9 5 _ cap l Try.underlying55 Try.underlying5 Try.underlying9 (fun j hj => ?_)
    rw [add_at _ rfl, Nat.zero_add, h.cellAt j (by omega)]
    simp [Lib.byteCells, hj]

theorem row_cells' (ls : List UInt8) (z : List Int) (j n : Nat) (hv : z[j]? = some (n : Int)) (hj : 0 < j) :
    Lib.byteCells (ls ++ rowTo z (j + 1)) = (Lib.byteCells (ls ++ rowTo z j) ++ [.int .u8 32]) ++ [.int .u8 ((hexd (n / 16)).toNat : Int), .int .u8 ((hexd (n % 16)).toNat : Int)] := by
  rw [rowTo, if_neg (by omega), List.getD, hv]
  simp [Lib.byteCells]
theorem row_cells0' (ls : List UInt8) (z : List Int) (n : Nat) (hv : z[0]? = some (n : Int)) :
    Lib.byteCells (ls ++ rowTo z (0 + 1)) = Lib.byteCells (ls ++ rowTo z 0) ++ [.int .u8 ((hexd (n / 16)).toNat : Int), .int .u8 ((hexd (n % 16)).toNat : Int)] := by
  simp [Lib.byteCells, rowTo, hv]
theorem row_len (ls : List UInt8) (z : List Int) (j : Nat) (hj : 0 < j) : (ls ++ rowTo z (j + 1)).length = (ls ++ rowTo z j).length + 3 := by
  rw [rowTo, if_neg (by omega)]; simp; omega
theorem row_len0 (ls : List UInt8) (z : List Int) : (ls ++ rowTo z (0 + 1)).length = (ls ++ rowTo z 0).length + 2 := by
  simp [rowTo]
theorem news_byte (w : World) (v : Int) (e : TypeId) : ∀ j u, ([Value.int .u8 v])[j]? = some u → (w.alloc (.cells #[.int .u8 v] e)).cell? ((⟨w.heap.size, 0, none⟩ : Addr).add j) = some u := by
  intro j u hj
  rw [add_at _ rfl]
  exact range_made w #[.int .u8 v] e j u hj

set_option maxHeartbeats 4000000 in
set_option maxRecDepth 100000 in
theorem refrows_any (A : Option Addr) (xs : List (List Int)) (c : Nat) (w : World) (hx : LogAt w A xs) :
    Calls Try.prog 27 #[.slice A xs.length c] w (Lined xs w) := by
  have HX := hid hx; clear hx
  cases hok : okLog xs with
  | false =>
    have HOK := hid hok; clear hok
    go_enter Try.func27, Try.ntmps27
    go_wp2_with fail
    refine (refright_any A xs c _ HX.out).mono ?_
    rintro e w1 ⟨rfl, hb⟩
    rw [HOK.out]
    have HB1 := hid hb; clear hb
    go_wp2
    go_ret2
    exact lined_no HOK.out HB1.out
  | true =>
    have HN := hid (okLog_len hok)
    have H14 := hid (okLog_14 hok)
    have HRT := hid (okLog_right hok)
    have HOK := hid hok; clear hok
    obtain ⟨i0, hi, hz0, hz1, hz2⟩ := info_parts infoByte
    have HI := hid hi; have HZ0 := hid hz0; have HZ1 := hid hz1; have HZ2 := hid hz2; clear hi hz0 hz1 hz2
    go_enter Try.func27, Try.ntmps27
    go_wp2_with fail
    refine (refright_any A xs c _ HX.out).mono ?_
    rintro e w1 ⟨rfl, hb⟩
    rw [HOK.out]
    have HB1 := hid hb; clear hb
    go_wp2
    go_loopg [4, 14] xs.length (fun g v i wr => ∃ k m : Nat, k ≤ xs.length ∧ g = xs.length - k ∧ i = .int .i64 k ∧ Hid (m = (linesTo xs k).length) ∧ Hid (wr.ownsRow w.heap.size 5 1 v m (Lib.byteCells (linesTo xs k))) ∧ Hid (Below w.heap.size w wr))
    case atStart => exact ⟨0, 0, Nat.zero_le _, rfl, rfl, hid rfl, hid (World.ownsRow_nil _ _ _ _), HB1⟩
    case round =>
      obtain ⟨k, m, hk, rfl, rfl, HM, HO, HB⟩ := hrel
      clear HB1
      by_cases hlt : k < xs.length
      · obtain ⟨b, off, B, c', z, rfl, hxk, hc0, hc2⟩ := HX.out k hlt
        have hl : z.length = 14 := H14.out z (List.mem_of_getElem? hxk)
        have hc1 := (HB.out.cell (World.block_lt_of_cell? w _ hc0)).trans hc0; clear hc0
        obtain ⟨b', off', rfl, hra⟩ := hc2 (by omega)
        have hbz : b' < w.heap.size := World.block_lt_of_cell? w _ (hra 0 _ (List.getElem?_eq_getElem (by rw [icells_len]; omega)))
        rw [hl] at hc1
        have HRA := hid hra
        have HL := hid hl; clear hc2 hra hl
        have HW : Hid (linesTo xs (k + 1) = linesTo xs k ++ (rowTo z 14 ++ [10])) := hid (by rw [linesTo, List.getD, hxk]; rfl)
        have HRZ : Hid (right z = true) := hid (HRT.out z (List.mem_of_getElem? hxk))
        have hwl := linesTo_len xs k
        have hk4 : k < 4000 := by have := HN.out; omega
        have hmm : m ≤ 180000 := by have := HM.out; omega
        have HWL : Hid ((linesTo xs k).length ≤ 43 * k) := hid hwl; clear hwl hxk
        generalize linesTo xs k = ls at *
        have hk0 : (0 : Int) ≤ (k : Int) := Int.natCast_nonneg _
        have hk1 : (k : Int) < (xs.length : Int) := by omega
        go_wp2
        clear hc1
        go_loopg [4, 20] 14 (fun g v i wi => ∃ j q : Nat, j ≤ 14 ∧ g = 14 - j ∧ i = .int .i64 j ∧ q ≤ m + 3 * j ∧ Hid (q = (ls ++ rowTo z j).length) ∧ Hid (wi.ownsRow w.heap.size 5 1 v q (Lib.byteCells (ls ++ rowTo z j))) ∧ Hid (Below w.heap.size w wi))
        case atStart => exact ⟨0, m, by omega, rfl, rfl, by omega, hid (by rw [rowTo, List.append_nil]; exact HM.out), hid (by rw [rowTo, List.append_nil]; exact HO.out), HB⟩
        case round =>
          obtain ⟨j, q, hj, rfl, rfl, hq, HQ, HO2, HB2⟩ := hrel
          clear HO HB
          by_cases hjl : j < 14
          · obtain ⟨v, hv⟩ : ∃ v, z[j]? = some v := ⟨_, List.getElem?_eq_getElem (by have := HL.out; omega)⟩
            obtain ⟨n, rfl, hn⟩ := right_at HRZ.out hv
            have hcv := rangeAt_below' HRA.out HB2.out hbz j _ (icells_at hv)
            have HV := hid hv; clear hv
            have hj0 : (0 : Int) ≤ (j : Int) := Int.natCast_nonneg _
            have hj1 : (j : Int) < 14 := by omega
            have hsz := HB2.out.size
            have hq1 : (n : Int) / 16 < 16 := by omega
            have hq0 : (0 : Int) ≤ (n : Int) / 16 := by omega
            have hr1 : (n : Int) % 16 < 16 := by omega
            have hr0 : (0 : Int) ≤ (n : Int) % 16 := by omega
            have hd1 : ∀ w, (Instr.index 9 (.string digits) (.int .i64 ((n : Int) / 16))).run Try.prog w = .ok (.int .u8 ((hexd (n / 16)).toNat : Int)) w := fun w => by
              have := run_digits w (n / 16) (by omega)
              rwa [Int.natCast_ediv] at this
            have hd2 : ∀ w, (Instr.index 9 (.string digits) (.int .i64 ((n : Int) % 16))).run Try.prog w = .ok (.int .u8 ((hexd (n % 16)).toNat : Int)) w := fun w => by
              have := run_digits w (n % 16) (by omega)
              rwa [Int.natCast_emod] at this
            have ht1 : Int.tdiv (n : Int) 16 = (n : Int) / 16 := Int.tdiv_eq_ediv_of_nonneg (by omega)
            have ht2 : Int.tmod (n : Int) 16 = (n : Int) % 16 := Int.tmod_eq_emod_of_nonneg (by omega)
            have hw1 : IntKind.i64.wrap ((n : Int) / 16) = (n : Int) / 16 := by rw [IntKind.wrap_i64]; omega
            have hw2 : IntKind.i64.wrap ((n : Int) % 16) = (n : Int) % 16 := by rw [IntKind.wrap_i64]; omega
            have HML : Hid (q + 2 ≤ maxLen) := hid (by unfold maxLen; omega)
            have HML1 : Hid (q + 1 ≤ maxLen) := hid (by unfold maxLen; omega)
            have HML3 : Hid (q + 1 + 2 ≤ maxLen) := hid (by unfold maxLen; omega)
            by_cases hj00 : j = 0
            · subst hj00
              rw [Nat.add_zero] at hcv
              go_wp2_with fail
              go_region_held3 (fun _ => True) (exact trivial)
                ((go_loud (refine step_append_lies _ (by rfl) _ _ _ (by rfl) w.heap.size 5 i0 _ 1 1 Try.underlying55 HI.out HZ0.out HZ1.out HZ2.out rfl (by omega) u4 q _ (by rfl) ((HO2.out.alloc _).drew) ⟨wr.heap.size, 0, none⟩ 2 2 [.int .u8 ((hexd (n / 16)).toNat : Int), .int .u8 ((hexd (n % 16)).toNat : Int)] (by rfl) (by rfl) (World.news_of_block (cs := #[.int .u8 ((hexd (n / 16)).toNat : Int), .int .u8 ((hexd (n % 16)).toNat : Int)]) (t := 5) (fr := (0, 0)) (heap_alloc_new wr _)) (by simp [Value.oneCell']) (by omega) HML.out (by omega) (by simp; omega) (wr.heap.size + 1) (by simp) ?_; intro gg cap w2 hown hgrow hat hlt)))
              all_goals
                have HO4 := hid hown
                have HB4 := hid (Below.grown (Below.grow HB2.out (.cells #[.int .u8 ((hexd (n / 16)).toNat : Int), .int .u8 ((hexd (n % 16)).toNat : Int)] 5)).drew hgrow (by simp; omega) (fun q hq => (HO2.out.lt q hq).1))
                clear hown hgrow hat hlt HO2 HB2 hd1 hd2 hcv ht1 ht2 hw1 hw2
                go_wp2
                go_roundg (14 - (0 + 1))
                case measure => omega
                case rel => exact ⟨0 + 1, q + 2, by omega, rfl, by go_num, by omega, hid (by rw [row_len0, HQ.out]), hid (by rw [row_cells0' ls z n HV.out]; exact HO4.out), HB4.out⟩
            · have hjp : (0 : Int) < (j : Int) := by omega
              have hjn : 0 < j := by omega
              have H00 := hid hj00; clear hj00
              go_wp2_with (first | (at_builtin; refine wpList_append_own _ rfl _ _ 55 rfl w.heap.size 5 i0 _ 1 1 Try.underlying55 HI.out HZ0.out HZ1.out HZ2.out rfl (by decide) u4 q _ rfl (HO2.out.alloc _) _ 1 1 [.int .u8 32] rfl rfl (news_byte _ _ _) (by simp [Value.oneCell']) HML1.out (by omega) (by simp; omega) ?_))
              intro v5 w5 hown5 hg5 _
              have HO5 := hid hown5
              have HB5 := hid (Below.grown (Below.grow HB2.out (.cells #[.int .u8 32] 5)) hg5 (by simp; omega) (fun q hq => (HO2.out.lt q hq).1))
              have hsz5 := HB5.out.size
              clear hown5 hg5 HO2 HB2 hcv
              go_wp2_with fail
              go_region_held3 (fun _ => True) (exact trivial)
                ((refine step_append_lies _ (by rfl) _ _ _ (by rfl) w.heap.size 5 i0 _ 1 1 Try.underlying55 HI.out HZ0.out HZ1.out HZ2.out rfl (by omega) v5 (q + 1) _ (by rfl) ((HO5.out.alloc _).drew) ⟨w5.heap.size, 0, none⟩ 2 2 [.int .u8 ((hexd (n / 16)).toNat : Int), .int .u8 ((hexd (n % 16)).toNat : Int)] (by rfl) (by rfl) (World.news_of_block (cs := #[.int .u8 ((hexd (n / 16)).toNat : Int), .int .u8 ((hexd (n % 16)).toNat : Int)]) (t := 5) (fr := (0, 0)) (heap_alloc_new w5 _)) (by simp [Value.oneCell']) (by omega) HML3.out (by omega) (by simp; omega) (w5.heap.size + 1) (by simp) ?_; intro gg cap w2 hown hgrow hat hlt))
              all_goals
                have HO4 := hid hown
                have HB4 := hid (Below.grown (Below.grow HB5.out (.cells #[.int .u8 ((hexd (n / 16)).toNat : Int), .int .u8 ((hexd (n % 16)).toNat : Int)] 5)).drew hgrow (by simp; omega) (fun q hq => (HO5.out.lt q hq).1))
                clear hown hgrow hat hlt HO5 HB5 hd1 hd2 ht1 ht2 hw1 hw2
                go_wp2
                go_roundg (14 - (j + 1))
                case measure => omega
                case rel => exact ⟨j + 1, q + 1 + 2, by omega, rfl, by go_num, by omega, hid (by rw [row_len _ _ _ hjn, HQ.out]), hid (by rw [row_cells' ls z j n HV.out hjn]; exact HO4.out), HB4.out⟩
          · obtain rfl : j = 14 := by omega
            have hsz := HB2.out.size
            have HML1 : Hid (q + 1 ≤ maxLen) := hid (by unfold maxLen; omega)
            go_wp2_with (first | (at_builtin; refine wpList_append_own _ rfl _ _ 55 rfl w.heap.size 5 i0 _ 1 1 Try.underlying55 HI.out HZ0.out HZ1.out HZ2.out rfl (by decide) u4 q _ rfl (HO2.out.alloc _) _ 1 1 [.int .u8 10] rfl rfl (news_byte _ _ _) (by simp [Value.oneCell']) HML1.out (by omega) (by simp; omega) ?_))
            intro v5 w5 hown5 hg5 _
            have HO5 := hid hown5
            have HB5 := hid (Below.grown (Below.grow HB2.out (.cells #[.int .u8 10] 5)) hg5 (by simp; omega) (fun q hq => (HO2.out.lt q hq).1))
            clear hown5 hg5 HO2 HB2
            go_wp2
            go_roundg (xs.length - (k + 1))
            case measure => omega
            case rel =>
              refine ⟨k + 1, q + 1, by omega, rfl, by go_num, hid (by rw [HW.out, HQ.out]; simp; omega), hid ?_, HB5.out⟩
              have h := HO5.out
              rw [HW.out, ← List.append_assoc, Lib.byteCells_append]
              exact h
      · obtain rfl : k = xs.length := by omega
        have hcv := run_convert_own HO.out
        go_wp2
        go_ret2
        exact lined_yes HOK.out HB.out
end Go.Proofs.Ytjefhconahdbiaa
