/- The reference's Packed gives the bytes of the plain list. -/
import Derived.Test.YtjefhconahdbiaaAlone
import Derived.Test.YtjefhconahdbiaaRefRun
import Derived.StillTactics
import Derived.Maps.AppendAt
namespace Go.Proofs.Ytjefhconahdbiaa
open Go.RowKit

theorem pack_step {xs : List (List Int)} {k : Nat} {out o : List Int} {n : Nat} (hk : k < xs.length) (h : out ++ packFrom xs k = packed xs) (hc : cmdAt xs k = (o, n)) : (out ++ o) ++ packFrom xs (k + n) = packed xs := by
  rw [← h, packFrom_more hk, hc, List.append_assoc]
theorem cmd_run {xs : List (List Int)} {k a b d : Nat} (h1 : sameLen xs k = a) (h2 : bestTo xs k (min 255 k) = (b, d)) (h : 0 < a ∧ b ≤ a) : cmdAt xs k = ([(a : Int)], a) := by
  unfold cmdAt; rw [h1, h2, if_pos h]
theorem cmd_rep {xs : List (List Int)} {k a b d : Nat} (h1 : sameLen xs k = a) (h2 : bestTo xs k (min 255 k) = (b, d)) (h : ¬ (0 < a ∧ b ≤ a)) (hb : 2 ≤ b) : cmdAt xs k = ([191 + (b : Int), (d : Int)], b) := by
  unfold cmdAt; rw [h1, h2, if_neg h, if_pos hb]; simp
theorem cmd_alone {xs : List (List Int)} {k a b d : Nat} (h1 : sameLen xs k = a) (h2 : bestTo xs k (min 255 k) = (b, d)) (h : ¬ (0 < a ∧ b ≤ a)) (hb : ¬ 2 ≤ b) : cmdAt xs k = (aloneOf (prev xs k) (xs.getD k []), 1) := by
  unfold cmdAt; rw [h1, h2, if_neg h, if_neg hb]
theorem okLog_all {xs : List (List Int)} (h : okLog xs = true) : ∀ z ∈ xs, right z = true := by
  unfold okLog at h
  rw [Bool.and_eq_true, List.all_eq_true] at h
  exact h.2
theorem LogAt.header_lt {w : World} {A : Option Addr} {xs : List (List Int)} (h : LogAt w A xs) {b off : Nat} (e : A = some ⟨b, off, none⟩) (h0 : 0 < xs.length) : b < w.heap.size := by
  obtain ⟨b', off', B, c, z, e', _, h1, _⟩ := h 0 h0
  rw [e] at e'; cases e'
  exact World.block_lt_of_cell? w _ h1
def Packing (xs : List (List Int)) (w : World) (e : Ending) (w' : World) : Prop :=
  ∃ v, e = .returned v ∧ w'.ownsRow w.heap.size 5 1 v (packed xs).length (u8cells (packed xs)) ∧ Below w.heap.size w w'
theorem news_u82 (w : World) (a b : Int) (e : TypeId) : ∀ j u, ([Value.int .u8 a, Value.int .u8 b])[j]? = some u → (w.alloc (.cells #[.int .u8 a, .int .u8 b] e)).cell? ((⟨w.heap.size, 0, none⟩ : Addr).add j) = some u := by
  intro j u hj
  rw [add_at _ rfl]
  exact range_made w #[.int .u8 a, .int .u8 b] e j u hj
theorem news_u83 (w : World) (a b c : Int) (e : TypeId) : ∀ j u, ([Value.int .u8 a, Value.int .u8 b, Value.int .u8 c])[j]? = some u → (w.alloc (.cells #[.int .u8 a, .int .u8 b, .int .u8 c] e)).cell? ((⟨w.heap.size, 0, none⟩ : Addr).add j) = some u := by
  intro j u hj
  rw [add_at _ rfl]
  exact range_made w #[.int .u8 a, .int .u8 b, .int .u8 c] e j u hj

set_option maxHeartbeats 8000000 in
set_option maxRecDepth 100000 in
theorem refpacked_any (A : Option Addr) (xs : List (List Int)) (c : Nat) (w : World) (hx : LogAt w A xs) (hok : okLog xs = true) :
    Calls Try.prog 61 #[.slice A xs.length c] w (Packing xs w) := by
  have HX := hid hx; clear hx
  have hn := okLog_len hok
  have H14 := hid (okLog_14 hok)
  have HRT := hid (okLog_all hok); clear hok
  obtain ⟨i0, hi, hz0, hz1, hz2⟩ := info_parts info5
  have HI := hid hi; have HZ0 := hid hz0; have HZ1 := hid hz1; have HZ2 := hid hz2; clear hi hz0 hz1 hz2
  go_enter Try.func61, Try.ntmps61
  go_wp2
  go_loopw [3, 4] (fun v i wr => ∃ (k : Nat) (out : List Int), k ≤ xs.length ∧ i = .int .i64 k ∧ out.length ≤ 17 * k ∧ Hid (out ++ packFrom xs k = packed xs) ∧ Hid (wr.ownsRow w.heap.size 5 1 v out.length (u8cells out)) ∧ Hid (Below w.heap.size w wr)) (fun _ i _ => xs.length - (intOf i).toNat)
  case atStart => exact ⟨0, [], Nat.zero_le _, rfl, Nat.zero_le _, hid rfl, hid (World.ownsRow_nil _ _ _ _), hid (Below.refl _ _)⟩
  case round =>
    obtain ⟨k, out, hk, rfl, hol, HP, HO, HB⟩ := hrel
    by_cases hlt : k < xs.length
    · obtain ⟨a, ha⟩ : ∃ a, sameLen xs k = a := ⟨_, rfl⟩
      obtain ⟨b, d, hbd⟩ : ∃ b d, bestTo xs k (min 255 k) = (b, d) := ⟨_, _, rfl⟩
      have ha7 : a ≤ 127 := by rw [← ha]; exact sameLen_le _ _
      have hak : k + a ≤ xs.length := by rw [← ha]; exact sameLen_bound _ _ (by omega)
      have hb6 : b ≤ 64 := by have := (bestTo_le xs k (min 255 k)).1; rw [hbd] at this; exact this
      have hbk : k + b ≤ xs.length := by have := bestTo_bound xs k (min 255 k) (by omega); rw [hbd] at this; exact this
      have hd5 : d ≤ 255 := by have := (bestTo_le xs k (min 255 k)).2; rw [hbd] at this; omega
      have HA := hid ha; have HBD := hid hbd; clear ha hbd
      go_wp2_with fail
      refine (refrun_any A xs c k _ (HX.out.below HB.out) (by omega) hn H14.out).mono ?_
      rintro e w1 ⟨rfl, hb1⟩
      rw [HA.out]
      have HB1 := hid (Below.step HB.out hb1); have HO1 : Hid (w1.ownsRow w.heap.size 5 1 u3 out.length (u8cells out)) := hid (ownsRow_below HO.out hb1); clear hb1 HO HB
      go_wp2_with fail
      refine (refrepeat_any A xs c k _ (HX.out.below HB1.out) (by omega) hn H14.out).mono ?_
      rintro e w2 ⟨rfl, hb2⟩
      rw [HBD.out]
      have HB2 := hid (Below.step HB1.out hb2); have HO2 : Hid (w2.ownsRow w.heap.size 5 1 u3 out.length (u8cells out)) := hid (ownsRow_below HO1.out hb2); clear hb2 HO1 HB1
      have hs2 := HB2.out.size
      by_cases hc1 : 0 < a ∧ b ≤ a
      · have HC := hid (cmd_run HA.out HBD.out hc1)
        have ht1 : decide (0 < a) = true := decide_eq_true hc1.1
        have ht2 : decide (b ≤ a) = true := decide_eq_true hc1.2
        have hwa : IntKind.u8.wrap (a : Int) = (a : Int) := by rw [IntKind.wrap_u8]; omega
        have ha0 := hc1.1
        clear hc1
        have HLM : Hid (out.length + 1 ≤ maxLen) := hid (by unfold maxLen; omega)
        go_wp2_with (first | (at_builtin; refine wpList_append_own _ rfl _ _ 55 rfl w.heap.size 5 i0 _ 1 1 Try.underlying55 HI.out HZ0.out HZ1.out HZ2.out rfl (by decide) u3 out.length _ rfl (HO2.out.alloc _) _ 1 1 [.int .u8 (a : Int)] rfl rfl (news_u8 _ _ _) (by simp [Value.oneCell']) HLM.out (by omega) (by simp; omega) ?_))
        intro v' w4 hown hg4 _
        have HO4 := hid hown
        have HB4 := hid (Below.grown (Below.grow HB2.out (.cells #[.int .u8 (a : Int)] 5)) hg4 (by simp; omega) (fun q hq => (HO2.out.lt q hq).1))
        clear hown hg4 HO2 HB2 ht1 ht2 hwa
        go_wp2
        go_roundw
        case rel => exact ⟨k + a, out ++ [(a : Int)], by omega, by go_num, by simp; omega, hid (pack_step hlt HP.out HC.out), hid (by rw [u8cells_append]; simpa [u8cells] using HO4.out), HB4.out⟩
        case measure => simp [intOf]; omega
      · by_cases hb2 : 2 ≤ b
        · have HC := hid (cmd_rep HA.out HBD.out hc1 hb2)
          have ht2 : decide ((2 : Int) ≤ (b : Int)) = true := decide_eq_true (by omega)
          have hwa : IntKind.u8.wrap (193 + (b : Int) - 2) = 191 + (b : Int) := by rw [IntKind.wrap_u8]; omega
          have hwd : IntKind.u8.wrap (d : Int) = (d : Int) := by rw [IntKind.wrap_u8]; omega
          have HLM : Hid (out.length + 2 ≤ maxLen) := hid (by unfold maxLen; omega)
          have HC1 := hid hc1; clear hc1
          by_cases ha0 : 0 < a
          · have hba : ¬ b ≤ a := fun h => HC1.out ⟨ha0, h⟩
            go_wp2_with (first | (at_builtin; refine wpList_append_own _ rfl _ _ 55 rfl w.heap.size 5 i0 _ 1 1 Try.underlying55 HI.out HZ0.out HZ1.out HZ2.out rfl (by decide) u3 out.length _ rfl (HO2.out.alloc _) _ 2 2 [.int .u8 (191 + (b : Int)), .int .u8 (d : Int)] rfl rfl (news_u82 _ _ _ _) (by simp [Value.oneCell']) HLM.out (by omega) (by simp; omega) ?_))
            intro v' w4 hown hg _
            have HOw4 := hid hown
            have HBw4 := hid (Below.grown (Below.grow HB2.out (.cells #[.int .u8 (191 + (b : Int)), .int .u8 (d : Int)] 5)) hg (by simp; omega) (fun q hq => (HO2.out.lt q hq).1))
            clear hown hg
            go_wp2
            go_roundw
            case rel => exact ⟨k + b, out ++ [191 + (b : Int), (d : Int)], by omega, by go_num, by simp; omega, hid (pack_step hlt HP.out HC.out), hid (by rw [u8cells_append]; simpa [u8cells] using HOw4.out), HBw4.out⟩
            case measure => simp [intOf]; omega
          · have ha1 : decide (0 < a) = false := decide_eq_false ha0
            go_wp2_with (first | (at_builtin; refine wpList_append_own _ rfl _ _ 55 rfl w.heap.size 5 i0 _ 1 1 Try.underlying55 HI.out HZ0.out HZ1.out HZ2.out rfl (by decide) u3 out.length _ rfl (HO2.out.alloc _) _ 2 2 [.int .u8 (191 + (b : Int)), .int .u8 (d : Int)] rfl rfl (news_u82 _ _ _ _) (by simp [Value.oneCell']) HLM.out (by omega) (by simp; omega) ?_))
            intro v' w4 hown hg _
            have HOw4 := hid hown
            have HBw4 := hid (Below.grown (Below.grow HB2.out (.cells #[.int .u8 (191 + (b : Int)), .int .u8 (d : Int)] 5)) hg (by simp; omega) (fun q hq => (HO2.out.lt q hq).1))
            clear hown hg
            go_wp2
            go_roundw
            case rel => exact ⟨k + b, out ++ [191 + (b : Int), (d : Int)], by omega, by go_num, by simp; omega, hid (pack_step hlt HP.out HC.out), hid (by rw [u8cells_append]; simpa [u8cells] using HOw4.out), HBw4.out⟩
            case measure => simp [intOf]; omega
        · have HC := hid (cmd_alone HA.out HBD.out hc1 hb2)
          have ht2 : decide ((2 : Int) ≤ (b : Int)) = false := decide_eq_false (by omega)
          have hkk : (0 : Int) ≤ (k : Int) := Int.natCast_nonneg _
          have hkl : (k : Int) < (xs.length : Int) := by omega
          have HC1 := hid hc1; clear hc1
          have hgo : (∀ K : Prop, (0 < a → ¬ b ≤ a → K) → (decide (0 < a) = false → K) → K) := fun K h1 h2 => by
            by_cases h : 0 < a
            · exact h1 h (fun h' => HC1.out ⟨h, h'⟩)
            · exact h2 (decide_eq_false h)
          refine hgo _ (fun ha0 hba => ?_) (fun ha1 => ?_)
          all_goals
            clear hgo
            go_wp2_with fail
            (try clear hba)
            (try clear ha0)
            (try clear ha1)
            clear ht2
            refine (refdiffer_any A xs c k _ (HX.out.below HB2.out) hlt hn H14.out).mono ?_
            rintro e w3 ⟨v, rfl, hdo, hb3⟩
            have HB3 := hid (Below.step HB2.out hb3); have HO3 : Hid (w3.ownsRow w.heap.size 5 1 u3 out.length (u8cells out)) := hid (ownsRow_below HO2.out hb3); have HDO := hid hdo
            have hs3 := hb3.size
            have HUB : Hid (∀ q, u3.ownBlock = some q → w.heap.size ≤ q ∧ q < w2.heap.size) := hid (fun q hq => HO2.out.lt q hq)
            clear hdo hb3 HO2 HB2
            obtain ⟨b0, off0, B0, c0, rfl, hcz0, hrz, hl⟩ := HX.out.row H14.out hlt
            obtain ⟨b1, off1, rfl, hr1⟩ := hrz (by omega)
            have hb0 : b0 < w.heap.size := World.block_lt_of_cell? w _ hcz0
            have hb1 : b1 < w.heap.size := World.block_lt_of_cell? w _ (hr1 0 _ (List.getElem?_eq_getElem (by rw [icells_len]; omega)))
            have hcz := (HB3.out.cell (p := ⟨b0, off0 + k, none⟩) hb0).trans hcz0
            clear hcz0
            obtain ⟨x, hx⟩ : ∃ x, x = xs.getD k [] := ⟨_, rfl⟩
            have hxr : right x = true := by rw [hx]; exact HRT.out _ (by rw [List.getD, List.getElem?_eq_getElem hlt]; exact List.getElem_mem _)
            rw [← hx] at hr1 hl HDO HC
            obtain ⟨old, hold⟩ : ∃ old, old = prev xs k := ⟨_, rfl⟩
            rw [← hold] at HDO HC
            have HXR := hid hxr; have HL := hid hl; have HR1 := hid hr1
            have HHX := hid (And.intro hx hold)
            have hdl : (diffs old x).length ≤ 14 := diffsTo_le _ _ _
            clear hxr hl hr1 hx hold
            by_cases h1 : (diffs old x).length = 1
            · obtain ⟨r, hr1, hr2, _⟩ := diffs_at (x := old) (y := x) (j := 0) (by omega)
              obtain ⟨g, cap, cur, rfl, hg, hcur⟩ : ∃ g cap cur, v = .slice (some ⟨g, 0, none⟩) 1 cap ∧ w2.heap.size ≤ g ∧ w3.heap[g]? = some (.cells cur 3 (0, 0)) := by
                rcases HDO.out.2 with ⟨_, h0⟩ | ⟨g, cap, cur, rfl, hg, hc, h4, h5, h6, h7⟩
                · omega
                · exact ⟨g, cap, cur, by rw [h1], hg, hc⟩
              obtain ⟨y, hy⟩ : ∃ y, x[r]? = some y := ⟨_, List.getElem?_eq_getElem (by have := HL.out; omega)⟩
              have hcy := (HB3.out.cell (p := ⟨b1, off1 + r, none⟩) hb1).trans (HR1.out r _ (icells_at hy))
              obtain ⟨yn, rfl, hyn⟩ := right_nat HXR.out hy
              have hc0 : w3.cell? ⟨g, 0, none⟩ = some (.int .i64 (r : Int)) := by
                have h := HDO.out
                rw [h1] at h
                exact own_at h (icells_at hr1)
              have hr0 : (0 : Int) ≤ (r : Int) := by omega
              have hr4 : (r : Int) < 14 := by omega
              have hA : IntKind.i64.wrap (128 + (r : Int)) = 128 + (r : Int) := by rw [IntKind.wrap_i64]; omega
              have hB : IntKind.u8.wrap (128 + (r : Int)) = 128 + (r : Int) := by rw [IntKind.wrap_u8]; omega
              have hC : IntKind.u8.wrap (yn : Int) = (yn : Int) := by rw [IntKind.wrap_u8]; omega
              have HSP : Hid (aloneOf old x = [128 + (r : Int), (yn : Int)]) := hid (by
                unfold aloneOf
                rw [if_pos h1, List.getD, hr1]
                simp only [Option.getD_some, Int.toNat_natCast]
                rw [List.getD, hy]; rfl)
              have H1 := hid h1; have HR1' := hid hr1; have HY := hid hy; clear h1 hr1 hy
              have ag : u3.ownBlock ≠ some g := fun e => by have := (HUB.out _ e).2; omega
              have ag0 : u3.ownBlock ≠ some b0 := fun e => by have := (HUB.out _ e).1; omega
              have ag1 : u3.ownBlock ≠ some b1 := fun e => by have := (HUB.out _ e).1; omega
              have HLM : Hid (out.length + 2 ≤ maxLen) := hid (by unfold maxLen; omega)
              have hgl : g < w3.heap.size := (Array.getElem?_eq_some_iff.1 hcur).1
              have HCU := hid hcur; clear hcur
              go_wp2_with fail
              go_region_held3 (fun w' => w'.cell? ⟨b0, off0 + k, none⟩ = some (.slice (some ⟨b1, off1, none⟩) 14 c0) ∧ w'.cell? ⟨g, 0, none⟩ = some (.int .i64 (r : Int)) ∧ w'.cell? ⟨b1, off1 + r, none⟩ = some (.int .i64 (yn : Int)))
                (first
                  | go_keep
                  | (go_split_ands
                     refine ⟨?_, ?_, ?_⟩
                     · (rw [hgrow.cell_far _ (by simp; omega) (Ne.symm ag0)]; assumption)
                     · (rw [hgrow.cell_far _ (by simp; omega) (Ne.symm ag)]; assumption)
                     · (rw [hgrow.cell_far _ (by simp; omega) (Ne.symm ag1)]; assumption)))
                ((refine step_append_lies _ (by rfl) _ _ _ (by rfl) w.heap.size 5 i0 _ 1 1 Try.underlying55 HI.out HZ0.out HZ1.out HZ2.out rfl (by omega) u3 out.length _ (by rfl) ((HO3.out.alloc _).drew) ⟨w3.heap.size, 0, none⟩ 2 2 [.int .u8 (128 + (r : Int)), .int .u8 (yn : Int)] (by rfl) (by rfl) (World.news_of_block (cs := #[.int .u8 (128 + (r : Int)), .int .u8 (yn : Int)]) (t := 5) (fr := (0, 0)) (heap_alloc_new w3 _)) (by simp [Value.oneCell']) (by omega) HLM.out (by omega) (by simp; omega) (w3.heap.size + 1) (by simp) ?_; intro gg cp w4 hown hgrow hat hlt4))
              all_goals
                have HO4 := hid hown
                have HB4 := hid (Below.grown (Below.grow HB3.out (.cells #[.int .u8 (128 + (r : Int)), .int .u8 (yn : Int)] 5)).drew hgrow (by simp; omega) (fun q hq => (HO3.out.lt q hq).1))
                clear hown hgrow hat hlt4 HO3 HB3 hc0 hcy hcz hA hB hC
                go_wp2
                go_roundw
                case rel => exact ⟨k + 1, out ++ [128 + (r : Int), (yn : Int)], by omega, by go_num, by simp; omega, hid (pack_step hlt HP.out (by rw [← HSP.out]; exact HC.out)), hid (by rw [u8cells_append]; simpa [u8cells] using HO4.out), HB4.out⟩
                case measure => simp [intOf]; omega
            · obtain ⟨DA, cp, rfl, hDA⟩ := owned_form HDO.out
              obtain ⟨n, hn'⟩ : ∃ n, n = (diffs old x).length := ⟨_, rfl⟩
              rw [← hn'] at HDO hDA h1 hdl
              have HDA := hid hDA; clear hDA
              have HN := hid hn'
              have HML : Hid (maskL (diffs old x) < 16384) := hid (ups_diffs old x 14).1
              have hne : ((n : Int) == 1) = false := by rw [beq_eq_false_iff_ne]; omega
              have H1 := hid h1
              rw [← hn']
              clear hn' h1
              go_wp2_with fail
              clear hne
              go_loop [9, 84] (fun m i => ∃ j : Nat, j ≤ n ∧ i = .int .i64 j ∧ m = .int .i64 (maskL ((diffs old x).take j) : Nat)) (fun _ i => n - (intOf i).toNat)
              case atStart => exact ⟨0, Nat.zero_le _, rfl, rfl⟩
              case round =>
                obtain ⟨j, hj, rfl, rfl⟩ := hrel
                by_cases hlj : j < n
                · obtain ⟨q, hk1, hk2, hk3, hk4⟩ := diffs_at (x := old) (y := x) (j := j) (by have := HN.out; omega)
                  obtain ⟨g, rfl, _, _⟩ := HDA.out (by omega)
                  have hcj := own_at HDO.out (icells_at hk1)
                  have hj0 : (0 : Int) ≤ (j : Int) := by omega
                  have hjn : (j : Int) < (n : Int) := by omega
                  have hpw : 2 ^ q ≤ 2 ^ 13 := Nat.pow_le_pow_right (by decide) (by omega)
                  have HW : Hid (wrap64 ((2 : Int) ^ q) = ((2 ^ q : Nat) : Int)) := hid (by
                    have e : (2 : Int) ^ q = ((2 ^ q : Nat) : Int) := by simp
                    rw [e]; unfold wrap64; omega)
                  have HWS : Hid (wrap64 ((maskL ((diffs old x).take j) : Nat) + wrap64 ((2 : Int) ^ q)) = (maskL ((diffs old x).take (j + 1)) : Nat)) := hid (by rw [HW.out, hk4]; unfold wrap64; omega)
                  have HWP : Hid (((maskL ((diffs old x).take j) : Nat) : Int) + (2 : Int) ^ q = (maskL ((diffs old x).take (j + 1)) : Nat)) := hid (by rw [hk4]; simp)
                  have HK1 := hid hk1; have HK3 := hid hk3; have HK4 := hid hk4; clear hk1 hk3 hk4 hpw HW
                  generalize maskL ((diffs old x).take j) = M at *
                  go_wp2
                  go_round
                  case rel => exact ⟨j + 1, by omega, by go_num, ret_cell (by first | exact HWS.out | exact HWP.out)⟩
                  case measure => simp [intOf]; omega
                · obtain rfl : n = j := by omega
                  have hM : List.take n (diffs old x) = diffs old x := by rw [HN.out, List.take_length]
                  rw [hM]
                  have hu1 : IntKind.u8.wrap ((maskL (diffs old x) : Nat) % 256 : Int) = ((maskL (diffs old x) : Nat) : Int) % 256 := by rw [IntKind.wrap_u8]; omega
                  have hu2 : IntKind.u8.wrap ((maskL (diffs old x) : Nat) / 256 : Int) = ((maskL (diffs old x) : Nat) : Int) / 256 := by have h := HML.out; rw [IntKind.wrap_u8]; omega
                  clear hM
                  obtain ⟨M, hMM⟩ : ∃ M, M = maskL (diffs old x) := ⟨_, rfl⟩
                  rw [← hMM] at hu1 hu2 HML
                  have HMM := hid hMM
                  rw [← hMM]
                  clear hMM
                  have HSP : Hid (aloneOf old x = manyTo M old x n) := hid (by
                    rw [HMM.out]; unfold aloneOf manyTo; rw [if_neg (by have := H1.out; have := HN.out; omega), HN.out, List.take_length]; rfl)
                  have HLM : Hid (out.length + 3 ≤ maxLen) := hid (by unfold maxLen; omega)
                  have hM16 : (M : Int) < 16384 := by have := HML.out; omega
                  have hM0 : (0 : Int) ≤ (M : Int) / 256 := by omega
                  have hM6 : (M : Int) / 256 < 64 := by omega
                  go_wp2_with (first | (at_builtin; refine wpList_append_own_at _ rfl _ _ 55 rfl w.heap.size 5 i0 _ 1 1 Try.underlying55 HI.out HZ0.out HZ1.out HZ2.out rfl (by decide) u3 out.length _ rfl (HO3.out.alloc _) _ 3 3 [.int .u8 192, .int .u8 ((M : Int) % 256), .int .u8 ((M : Int) / 256)] rfl rfl (news_u83 _ _ _ _ _) (by simp [Value.oneCell']) HLM.out (by omega) (by simp; omega) ?_))
                  intro v' w4 hown hg _ hat
                  have HOw4 := hid hown
                  have HBw4 := hid (Below.grown (Below.grow HB3.out (.cells #[.int .u8 192, .int .u8 ((M : Int) % 256), .int .u8 ((M : Int) / 256)] 5)) hg (by simp; omega) (fun q hq => (HO3.out.lt q hq).1))
                  have HOW0 : Hid (w4.ownsRow w.heap.size 5 1 v' (out.length + 3) (u8cells (out ++ manyTo M old x 0))) := hid (by rw [u8cells_append]; exact HOw4.out)
                  have HFD : Hid (∀ p o u, w3.cell? ⟨p, o, none⟩ = some u → (p < w.heap.size ∨ w2.heap.size ≤ p) → w4.cell? ⟨p, o, none⟩ = some u) := hid (fun p o u hu hp => by
                    have hlb : p < w3.heap.size := World.block_lt_of_cell? w3 _ hu
                    rw [hg.cell_far _ (by simp; omega) (fun e => by have := HUB.out p e.symm; omega)]
                    exact (World.cell?_alloc_past _ _ _ hlb).trans hu)
                  have HOB : Hid (∀ q, v'.ownBlock = some q → (w.heap.size ≤ q ∧ q < w2.heap.size) ∨ w3.heap.size ≤ q) := hid (fun q hq => by
                    rcases hat with h | h
                    · rw [h] at hq; exact Or.inl (HUB.out q hq)
                    · rw [h] at hq; cases hq; simp)
                  have hs4 : w3.heap.size ≤ w4.heap.size := by have := hg.size; simp at this; omega
                  clear hown hg hat HO3 HB3 hu1 hu2 hM16 hM0 hM6
                  go_wp2_with fail
                  go_loopw [3, 104] (fun v i wr => ∃ j : Nat, j ≤ n ∧ i = .int .i64 j ∧ w3.heap.size ≤ wr.heap.size ∧ Hid (wr.ownsRow w.heap.size 5 1 v (out.length + 3 + j) (u8cells (out ++ manyTo M old x j))) ∧ Hid (Below w.heap.size w wr) ∧ Hid (∀ p o u, w3.cell? ⟨p, o, none⟩ = some u → (p < w.heap.size ∨ w2.heap.size ≤ p) → wr.cell? ⟨p, o, none⟩ = some u) ∧ Hid (∀ q, v.ownBlock = some q → (w.heap.size ≤ q ∧ q < w2.heap.size) ∨ w3.heap.size ≤ q)) (fun _ i _ => n - (intOf i).toNat)
                  case atStart => exact ⟨0, Nat.zero_le _, rfl, hs4, HOW0, HBw4, HFD, HOB⟩
                  case round =>
                    obtain ⟨j, hj, rfl, hsr, HOW, HBW, HFR, HOR⟩ := hrel
                    clear HOW0 HBw4 HFD HOB HOw4
                    by_cases hlj : j < n
                    · obtain ⟨q, hk1, hk2, _⟩ := diffs_at (x := old) (y := x) (j := j) (by have := HN.out; omega)
                      obtain ⟨g, rfl, hg1, hg2⟩ := HDA.out (by omega)
                      have hcj := HFR.out _ _ _ (own_at HDO.out (icells_at hk1)) (Or.inr hg1)
                      obtain ⟨y, hy⟩ : ∃ y, x[q]? = some y := ⟨_, List.getElem?_eq_getElem (by have := HL.out; omega)⟩
                      obtain ⟨yn, rfl, hyn⟩ := right_nat HXR.out hy
                      have hcy := (HBW.out.cell (p := ⟨b1, off1 + q, none⟩) hb1).trans (HR1.out q _ (icells_at hy))
                      have hcz' := HFR.out _ _ _ hcz (Or.inl hb0)
                      have HCZ := hid hcz; clear hcz
                      have hj0 : (0 : Int) ≤ (j : Int) := by omega
                      have hjn : (j : Int) < (n : Int) := by omega
                      have hr0 : (0 : Int) ≤ (q : Int) := by omega
                      have hr4 : (q : Int) < 14 := by omega
                      have hC : IntKind.u8.wrap (yn : Int) = (yn : Int) := by rw [IntKind.wrap_u8]; omega
                      have HT : Hid (manyTo M old x (j + 1) = manyTo M old x j ++ [(yn : Int)]) := hid (by
                        rw [manyTo, manyTo, List.append_assoc, List.take_add_one, hk1, Option.toList_some, List.map_append, List.map_singleton, Int.toNat_natCast, List.getD, hy]; rfl)
                      have HLM1 : Hid (out.length + 3 + j + 1 ≤ maxLen) := hid (by unfold maxLen; omega)
                      have hwr := HBW.out.size
                      clear hk1 hy
                      go_wp2_with (first | (at_builtin; refine wpList_append_own_at _ rfl _ _ 55 rfl w.heap.size 5 i0 _ 1 1 Try.underlying55 HI.out HZ0.out HZ1.out HZ2.out rfl (by decide) u3 (out.length + 3 + j) _ rfl (HOW.out.alloc _) _ 1 1 [.int .u8 (yn : Int)] rfl rfl (news_u8 _ _ _) (by simp [Value.oneCell']) HLM1.out (by omega) (by simp; omega) ?_))
                      intro v2 w5 hown hg5 _ hat
                      have HO5 : Hid (w5.ownsRow w.heap.size 5 1 v2 (out.length + 3 + (j + 1)) (u8cells (out ++ manyTo M old x (j + 1)))) := hid (by rw [HT.out, ← List.append_assoc, u8cells_append]; exact hown)
                      have HB5 := hid (Below.grown (Below.grow HBW.out (.cells #[.int .u8 (yn : Int)] 5)) hg5 (by simp; omega) (fun q hq => (HOW.out.lt q hq).1))
                      have HF5 : Hid (∀ p o u, w3.cell? ⟨p, o, none⟩ = some u → (p < w.heap.size ∨ w2.heap.size ≤ p) → w5.cell? ⟨p, o, none⟩ = some u) := hid (fun p o u hu hp => by
                        have hlb : p < w3.heap.size := World.block_lt_of_cell? w3 _ hu
                        rw [hg5.cell_far _ (by simp; omega) (fun e => by have := HOR.out p e.symm; omega)]
                        exact (World.cell?_alloc_past _ _ _ (show p < wr.heap.size by omega)).trans (HFR.out p o u hu hp))
                      have HOB5 : Hid (∀ q, v2.ownBlock = some q → (w.heap.size ≤ q ∧ q < w2.heap.size) ∨ w3.heap.size ≤ q) := hid (fun q hq => by
                        rcases hat with h | h
                        · rw [h] at hq; exact HOR.out q hq
                        · rw [h] at hq; cases hq; omega)
                      have hs5 : w3.heap.size ≤ w5.heap.size := by have := hg5.size; simp at this; omega
                      clear hown hg5 hat HOW HBW HFR HOR hcj hcy hcz' hC
                      go_wp2
                      go_roundw
                      case rel => exact ⟨j + 1, by omega, by go_num, hs5, HO5, HB5, HF5, HOB5⟩
                      case measure => simp [intOf]; omega
                    · obtain rfl : n = j := by omega
                      have HML2 : Hid ((manyTo M old x n).length = n + 3) := hid (by have := HN.out; simp [manyTo]; omega)
                      go_wp2
                      go_roundw
                      case rel =>
                        refine ⟨k + 1, out ++ manyTo M old x n, by omega, by go_num, ?_, hid (pack_step hlt HP.out (by rw [← HSP.out]; exact HC.out)), hid ?_, HBW⟩
                        · rw [List.length_append, HML2.out]; omega
                        · rw [List.length_append, HML2.out, show out.length + (n + 3) = out.length + 3 + n by omega]; exact HOW.out
                      case measure => simp [intOf]; omega
    · obtain rfl : k = xs.length := by omega
      have HPE : Hid (packed xs = out ++ [0]) := hid (by rw [← HP.out, packFrom_end (by omega)])
      have hs := HB.out.size
      have HLM : Hid (out.length + 1 ≤ maxLen) := hid (by unfold maxLen; omega)
      go_wp2_with (first | (at_builtin; refine wpList_append_own _ rfl _ _ 55 rfl w.heap.size 5 i0 _ 1 1 Try.underlying55 HI.out HZ0.out HZ1.out HZ2.out rfl (by decide) u3 out.length _ rfl (HO.out.alloc _) _ 1 1 [.int .u8 0] rfl rfl (news_u8 _ _ _) (by simp [Value.oneCell']) HLM.out (by omega) (by simp; omega) ?_))
      intro v' w4 hown hg4 _
      have HO4 := hid hown
      have HB4 := hid (Below.grown (Below.grow HB.out (.cells #[.int .u8 0] 5)) hg4 (by simp; omega) (fun q hq => (HO.out.lt q hq).1))
      clear hown hg4 HO HB
      go_wp2
      go_ret
      refine ⟨_, rfl, ?_, HB4.out⟩
      rw [HPE.out, u8cells_append, List.length_append]
      exact HO4.out
end Go.Proofs.Ytjefhconahdbiaa
