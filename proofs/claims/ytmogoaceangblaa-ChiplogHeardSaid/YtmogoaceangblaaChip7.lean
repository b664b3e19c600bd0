/- The tone chip plays a log. -/
import Derived.Test.YtmogoaceangblaaChip6
import Derived.Test.YtmogoaceangblaaReadBack
namespace Go.Proofs.Ytmogoaceangblaa
open Go.RowKit

/-- The registers of an entry that differ are written. -/
def wrTo (T x p : List Int) (first : Bool) : Nat → List Int
  | 0 => T
  | r + 1 => if first || x.getD r 0 != p.getD r 0 then wrT (wrTo T x p first r) r (x.getD r 0) else wrTo T x p first r
def playT (f g : Int → Int → Int) (xs : List (List Int)) (n : Nat) : Nat → List Int × List Int
  | 0 => (newT, [])
  | k + 1 => (runT g (wrTo (playT f g xs n k).1 (xs.getD k []) (xs.getD (k - 1) []) (decide (k = 0)) 14) n,
      (playT f g xs n k).2 ++ outT f g (wrTo (playT f g xs n k).1 (xs.getD k []) (xs.getD (k - 1) []) (decide (k = 0)) 14) n n)
theorem OkT.wrTo {T x p : List Int} {first : Bool} (h : OkT T) (hx : ∀ v ∈ x, 0 ≤ v ∧ v < 256) (hl : x.length = 14) : ∀ r, r ≤ 14 → OkT (wrTo T x p first r)
  | 0, _ => h
  | r + 1, hr => by
    have ih := h.wrTo (p := p) (first := first) hx hl r (by omega)
    unfold Ytmogoaceangblaa.wrTo
    split
    · have hv : 0 ≤ x.getD r 0 ∧ x.getD r 0 < 256 := by
        rw [List.getD, List.getElem?_eq_getElem (by omega)]
        exact hx _ (List.getElem_mem _)
      exact ih.wr (by omega) hv.1 (by omega)
    · exact ih
theorem OkT.playT {f g : Int → Int → Int} (hg : FoF g) {xs : List (List Int)} (hr : ∀ z ∈ xs, right z = true) (n : Nat) : ∀ k, k ≤ xs.length → OkT (playT f g xs n k).1
  | 0, _ => ok_new
  | k + 1, hk => by
    have ih := OkT.playT (f := f) hg hr n k (by omega)
    have hz := right_range (hr (xs.getD k []) (by rw [List.getD, List.getElem?_eq_getElem (by omega)]; exact List.getElem_mem _))
    exact (ih.wrTo hz.2 hz.1 14 (Nat.le_refl _)).runT hg n
theorem playT_len (f g : Int → Int → Int) (xs : List (List Int)) (n k : Nat) : (playT f g xs n k).2.length = n * k := by
  induction k with
  | zero => simp [playT]
  | succ k ih => rw [playT, List.length_append, ih, outT_len]; rw [Nat.mul_succ]
/-- How Play ends. -/
def Played (O : List Int) (w : World) (e : Ending) (w' : World) : Prop := ∃ A c, e = .returned (.tuple #[.slice A O.length c, .int .i64 0]) ∧ IntsAt w' A O ∧ Below w.heap.size w w'
set_option maxHeartbeats 16000000 in
set_option maxRecDepth 100000 in
theorem play_any (f g : Int → Int → Int) (hf : ShF f) (hg : FoF g) (A : Option Addr) (xs : List (List Int)) (c n : Nat) (w : World) (hx : LogAt w A xs) (hok : okLog xs = true) (h6 : xs.length ≤ 600) (hn : n ≤ 40) :
    Calls Try.prog 8 #[.slice A xs.length c, .int .i64 n] w (Played (playT f g xs n xs.length).2 w) := by
  have HX := hid hx; have HF := hid hf; have HG := hid hg
  have HRT := hid (okLog_all hok)
  have HRR : Hid (∀ z ∈ xs, z.length = 14 ∧ ∀ v ∈ z, 0 ≤ v ∧ v < 256) := hid (fun z hz => right_range (okLog_all hok z hz))
  have HN := hid hn; have H6 := hid h6
  obtain ⟨i0, hi, hz0, hz1, hz2⟩ := info_parts info3
  have HI := hid hi; have HZ0 := hid hz0; have HZ1 := hid hz1; have HZ2 := hid hz2; clear hi hz0 hz1 hz2
  clear hx hf hg hok hn
  go_enter Try.func8, Try.ntmps8
  go_wp2
  go_loopg [19] xs.length (fun gh i wr => ∃ k : Nat, k ≤ xs.length ∧ gh = xs.length - k ∧ i = .int .i64 k ∧ wr = w)
  case atStart => exact ⟨0, Nat.zero_le _, rfl, rfl, rfl⟩
  case round =>
    obtain ⟨k, hk, rfl, rfl, rfl⟩ := hrel
    by_cases hlt : k < xs.length
    · obtain ⟨b, off, B, c1, z, rfl, hxk, hc1, hi1⟩ := HX.out k hlt
      obtain ⟨hz14, hzr⟩ := HRR.out z (List.mem_of_getElem? hxk)
      rw [hz14] at hc1
      obtain ⟨bz, oz, rfl, hrz⟩ := hi1 (by omega)
      have HZR := hid hzr; have HZL := hid hz14; have HRZ := hid hrz
      clear hxk hi1 hz14 hzr hrz
      have hk0 : (0 : Int) ≤ (k : Int) := by omega
      have hk1 : (k : Int) < (xs.length : Int) := by omega
      go_wp2
      go_loopg [28] 14 (fun gh i wi => wi = wr ∧ ∃ j : Nat, j ≤ 14 ∧ gh = 14 - j ∧ i = .int .i64 j)
      case atStart => exact ⟨rfl, 0, by omega, rfl, rfl⟩
      case round =>
        obtain ⟨rfl, j, hj, rfl, rfl⟩ := hrel
        by_cases hjl : j < 14
        · obtain ⟨v, hv⟩ : ∃ v, z[j]? = some v := ⟨_, List.getElem?_eq_getElem (by have := HZL.out; omega)⟩
          have hvr := HZR.out v (List.mem_of_getElem? hv)
          have hcv := HRZ.out j _ (icells_at hv)
          have hj0 : (0 : Int) ≤ (j : Int) := by omega
          have hj1 : (j : Int) < 14 := by omega
          have hin : inb v 0 255 = true := by unfold inb; simp; omega
          clear hv hvr
          go_wp2_with fail
          refine (cin_any v 0 255 _).mono ?_
          rintro e w5 ⟨rfl, rfl⟩
          rw [hin]
          go_wp2
          go_roundg (14 - (j + 1))
          case measure => omega
          case rel => exact ⟨rfl, j + 1, by omega, rfl, by go_num⟩
        · obtain rfl : j = 14 := by omega
          go_wp2
          go_roundg (xs.length - (k + 1))
          case measure => omega
          case rel => exact ⟨k + 1, by omega, rfl, by go_num, rfl⟩
    · obtain rfl : k = xs.length := by omega
      by_cases h0 : xs.length = 0
      · have HE : Hid ((playT f g xs n xs.length).2 = []) := hid (by rw [h0]; rfl)
        have h0' : ((xs.length : Int) == 0) = true := by rw [h0]; rfl
        clear h0
        go_wp2
        go_ret2
        rw [HE.out]
        exact ⟨none, 0, rfl, fun h => absurd h (by simp), Below.refl _ _⟩
      · have hne : ((xs.length : Int) == 0) = false := by rw [beq_eq_false_iff_ne]; omega
        have hpos : (0 : Int) < (xs.length : Int) := by omega
        have HIN : Hid (inb n 0 (200000 / (xs.length : Int)) = true) := hid (by
          unfold inb
          have h1 : (40 : Int) ≤ 200000 / (xs.length : Int) := (Int.le_ediv_iff_mul_le hpos).2 (by omega)
          have := HN.out
          rw [decide_eq_true (show (0 : Int) ≤ (n : Int) by omega), decide_eq_true (show (n : Int) ≤ 200000 / (xs.length : Int) by omega)]
          rfl)
        clear h0
        go_wp2_with fail
        refine (cin_any n 0 (200000 / (xs.length : Int)) _).mono ?_
        rintro e w5 ⟨rfl, rfl⟩
        rw [HIN.out]
        go_wp2_with fail
        refine (newtones_any _).mono ?_
        rintro e w1 ⟨rfl, hb1⟩
        have HB1 := hid hb1
        clear hb1 hne
        obtain ⟨N, hN⟩ : ∃ N, N = (icells newT).toArray := ⟨_, rfl⟩
        have hsz : (Try.prog.info? 57).map (·.size) = some N.size := by rw [hN]; exact size57
        have hns : N.size = 24 := by rw [hN]; rfl
        have hone : N.toList.all (·.oneCell') = true := by rw [hN]; kernel_rfl
        go_upto_region 19 with (first | (refine wpList_store_new rfl 57 _ _ rfl _ N rfl (by rw [hN]; rfl) hsz (by rw [hns]; rfl) hone ?_))
        obtain ⟨w2, hw2⟩ : ∃ z, z = w1.alloc (Obj.cells (icells newT).toArray 57) := ⟨_, rfl⟩
        obtain ⟨bt, hbt⟩ : ∃ z, z = w1.heap.size := ⟨_, rfl⟩
        rw [← hw2, ← hbt]
        obtain ⟨W, rfl⟩ : ∃ z, z = wr := ⟨wr, rfl⟩
        have HB2 : Hid (Below W.heap.size W w2) := hid (by rw [hw2]; exact Below.grow HB1.out _)
        have HT2 : Hid (ToneAt w2 bt (playT f g xs n 0).1) := hid (by rw [hw2, hbt]; exact ToneAt.new w1 newT)
        have HS2 : Hid (bt + 1 ≤ w2.heap.size) := hid (by rw [hw2, hbt]; simp)
        have HBT : Hid (W.heap.size ≤ bt) := hid (by rw [hbt]; exact HB1.out.size)
        clear hw2 hbt hN hsz hns hone
        go_wp2_with fail
        go_loopg [11, 50] xs.length (fun gh o i wo => ∃ k : Nat, k ≤ xs.length ∧ gh = xs.length - k ∧ i = .int .i64 k ∧ Hid (ToneAt wo bt (playT f g xs n k).1) ∧ Hid (wo.ownsRow (bt + 1) 3 1 o (playT f g xs n k).2.length (icells (playT f g xs n k).2)) ∧ Hid (Below W.heap.size W wo) ∧ Hid (bt + 1 ≤ wo.heap.size))
        case atStart => exact ⟨0, Nat.zero_le _, rfl, rfl, HT2, hid (World.ownsRow_nil _ _ _ _), HB2, HS2⟩
        case round =>
          obtain ⟨k, hk, rfl, rfl, HT, HOW, HB, HSZ⟩ := hrel
          obtain ⟨wo, rfl⟩ : ∃ z, z = wr := ⟨wr, rfl⟩
          by_cases hlt : k < xs.length
          · obtain ⟨b, off, B, c1, x, rfl, hxk, hc1, hi1⟩ := HX.out k hlt
            obtain ⟨hx14, hxr⟩ := HRR.out x (List.mem_of_getElem? hxk)
            rw [hx14] at hc1
            obtain ⟨bz, oz, rfl, hrz⟩ := hi1 (by omega)
            have HXR := hid hxr; have HXL := hid hx14; have HRZ := hid hrz
            have hxg : xs.getD k [] = x := by rw [List.getD, hxk]; rfl
            have HOK := hid (OkT.playT (f := f) HG.out HRT.out n k hk)
            have HPL := hid (playT_len f g xs n k)
            obtain ⟨T, hT⟩ : ∃ T, T = (playT f g xs n k).1 := ⟨_, rfl⟩
            obtain ⟨q, hq⟩ : ∃ q, q = xs.getD (k - 1) [] := ⟨_, rfl⟩
            obtain ⟨fi, hfi⟩ : ∃ fi, fi = decide (k = 0) := ⟨_, rfl⟩
            have HNT : Hid ((playT f g xs n (k + 1)).1 = runT g (wrTo T x q fi 14) n) := hid (by rw [playT, hxg, ← hT, ← hq, ← hfi])
            have HNO : Hid ((playT f g xs n (k + 1)).2 = (playT f g xs n k).2 ++ outT f g (wrTo T x q fi 14) n n) := hid (by rw [playT, hxg, ← hT, ← hq, ← hfi])
            rw [← hT] at HT HOK
            have hk0 : (0 : Int) ≤ (k : Int) := by omega
            have hk1 : (k : Int) < (xs.length : Int) := by omega
            have HQ := hid hq; have HFI := hid hfi
            have HC1 := hid hc1
            have hc1' : wo.cell? ⟨b, off + k, none⟩ = some (.slice (some ⟨bz, oz, none⟩) 14 c1) := (HB.out.cell (World.block_lt_of_cell? W _ hc1)).trans hc1
            clear hxk hi1 hx14 hxr hrz hxg hT hq hfi hc1
            go_wp2_with fail
            clear hc1'
            go_loopg [57] 14 (fun gh i wi => ∃ j : Nat, j ≤ 14 ∧ gh = 14 - j ∧ i = .int .i64 j ∧ Hid (ToneAt wi bt (wrTo T x q fi j)) ∧ Hid (wi.ownsRow (bt + 1) 3 1 u11 (playT f g xs n k).2.length (icells (playT f g xs n k).2)) ∧ Hid (Below W.heap.size W wi) ∧ Hid (bt + 1 ≤ wi.heap.size))
            case atStart => exact ⟨0, by omega, rfl, rfl, HT, HOW, HB, HSZ⟩
            case round =>
              clear HT HOW HB HSZ
              obtain ⟨j, hj, rfl, rfl, HT, HOW, HB, HSZ⟩ := hrel
              obtain ⟨wi, rfl⟩ : ∃ z, z = wr := ⟨wr, rfl⟩
              by_cases hjl : j < 14
              · obtain ⟨v, hv⟩ : ∃ v, x[j]? = some v := ⟨_, List.getElem?_eq_getElem (by have := HXL.out; omega)⟩
                have hvg : x.getD j 0 = v := by rw [List.getD, hv]; rfl
                have hcv0 := HRZ.out j _ (icells_at hv)
                have hcv : wi.cell? ⟨bz, oz + j, none⟩ = some (.int .i64 v) := (HB.out.cell (World.block_lt_of_cell? W _ hcv0)).trans hcv0
                have hj0 : (0 : Int) ≤ (j : Int) := by omega
                have hj1 : (j : Int) < 14 := by omega
                clear hv hcv0
                by_cases h0 : k = 0
                · have hfe : fi = true := by rw [HFI.out]; exact decide_eq_true h0
                  have hke : ((k : Int) == 0) = true := by rw [h0]; rfl
                  clear h0
                  have HNX : Hid (wrTo T x q fi (j + 1) = wrT (wrTo T x q fi j) j v) := hid (by rw [wrTo, hvg, hfe]; simp)
                  have HOU : Hid (OkT (wrTo T x q fi j)) := hid (HOK.out.wrTo HXR.out HXL.out j (by omega))
                  have HOV : Hid (OkT (wrTo T x q fi (j + 1))) := hid (HOK.out.wrTo HXR.out HXL.out (j + 1) (by omega))
                  obtain ⟨U, hU⟩ : ∃ U, U = wrTo T x q fi j := ⟨_, rfl⟩
                  obtain ⟨V, hV⟩ : ∃ V, V = wrTo T x q fi (j + 1) := ⟨_, rfl⟩
                  rw [← hU] at HT HOU HNX
                  rw [← hV] at HOV HNX
                  have HVE := hid hV
                  have HSU := hid (size57' HOU.out.len); have HSV := hid (size57' HOV.out.len)
                  clear hU hV hvg hfe
                  go_wp2_with (first | (refine wpList_load_row rfl 57 _ rfl bt rfl 57 _ (0, 0) _ HT.out Try.underlying57 rfl HSU.out ?_))
                  refine (written_any U j v wi HOU.out.len (by omega)).mono ?_
                  rintro e w5 ⟨rfl, hb5⟩
                  rw [← HNX.out]
                  have HT5 := hid (HT.out.below hb5 HT.out.lt)
                  have HB5 : Hid (Below W.heap.size W w5) := hid (Below.step HB.out hb5)
                  have HW5 : Hid (w5.ownsRow (bt + 1) 3 1 u11 (playT f g xs n k).2.length (icells (playT f g xs n k).2)) := hid (ownsRow_same HOW.out fun q hq => hb5.block q (HOW.out.lt q hq).2)
                  have HS5 : Hid (bt + 1 ≤ w5.heap.size) := hid (Nat.le_trans HSZ.out hb5.size)
                  clear hb5 hcv
                  go_wp2_with (first | (refine wpList_store_row rfl 57 _ _ rfl bt (icells V).toArray rfl rfl 57 _ HT5.out HSV.out (by simp only [List.size_toArray, icells_len]; rw [HOU.out.len, HOV.out.len]) (all_oneCell_toArray (icells_one V)) ?_))
                  obtain ⟨w6, hw6⟩ : ∃ z, z = w5.setRow bt (icells V).toArray := ⟨_, rfl⟩
                  rw [← hw6]
                  have HT6 : Hid (ToneAt w6 bt V) := hid (by rw [hw6]; exact setRow_heap w5 _ _ _ 57 (0, 0) HT5.out)
                  have HB6 : Hid (Below W.heap.size W w6) := hid (by rw [hw6]; exact Below.row HB5.out HBT.out _)
                  have HW6 : Hid (w6.ownsRow (bt + 1) 3 1 u11 (playT f g xs n k).2.length (icells (playT f g xs n k).2)) := hid (by rw [hw6]; exact ownsRow_same HW5.out fun q hq => setRow_other _ _ _ _ (by have := HW5.out.lt q hq; omega))
                  have HS6 : Hid (bt + 1 ≤ w6.heap.size) := hid (by rw [hw6]; simpa [World.setRow] using HS5.out)
                  clear hw6
                  go_roundg (14 - (j + 1))
                  case measure => omega
                  case rel => exact ⟨j + 1, by omega, rfl, by go_num, hid (by rw [← HVE.out]; exact HT6.out), HW6, HB6, HS6⟩
                · have hfe : fi = false := by rw [HFI.out]; exact decide_eq_false h0
                  have hke : ((k : Int) == 0) = false := by rw [beq_eq_false_iff_ne]; omega
                  obtain ⟨b', off', B', c2, y, e', hyk, hcy, hi2⟩ := HX.out (k - 1) (by omega)
                  cases e'
                  obtain ⟨hy14, _⟩ := HRR.out y (List.mem_of_getElem? hyk)
                  rw [hy14] at hcy
                  obtain ⟨by_, oy, rfl, hry⟩ := hi2 (by omega)
                  have hqy : q = y := by rw [HQ.out, List.getD, hyk]; rfl
                  obtain ⟨pv, hpv⟩ : ∃ pv, y[j]? = some pv := ⟨_, List.getElem?_eq_getElem (by omega)⟩
                  have hpg : q.getD j 0 = pv := by rw [hqy, List.getD, hpv]; rfl
                  have hcp0 := hry j _ (icells_at hpv)
                  have hcp : wi.cell? ⟨by_, oy + j, none⟩ = some (.int .i64 pv) := (HB.out.cell (World.block_lt_of_cell? W _ hcp0)).trans hcp0
                  have hch : wi.cell? ⟨b, off + (k - 1), none⟩ = some (.slice (some ⟨by_, oy, none⟩) 14 c2) := (HB.out.cell (World.block_lt_of_cell? W _ hcy)).trans hcy
                  have hm0 : (0 : Int) ≤ (k : Int) - 1 := by omega
                  have hm1 : (k : Int) - 1 < (xs.length : Int) := by omega
                  have hm2 : ((k : Int) - 1).toNat = k - 1 := by omega
                  have H0 := hid h0
                  clear h0 hyk hcy hi2 hy14 hry hqy hpv hcp0
                  cases hd : (v != pv) with
                  | true =>
                    have HNX : Hid (wrTo T x q fi (j + 1) = wrT (wrTo T x q fi j) j v) := hid (by rw [wrTo, hvg, hpg, hd]; simp)
                    have HOU : Hid (OkT (wrTo T x q fi j)) := hid (HOK.out.wrTo HXR.out HXL.out j (by omega))
                    have HOV : Hid (OkT (wrTo T x q fi (j + 1))) := hid (HOK.out.wrTo HXR.out HXL.out (j + 1) (by omega))
                    obtain ⟨U, hU⟩ : ∃ U, U = wrTo T x q fi j := ⟨_, rfl⟩
                    obtain ⟨V, hV⟩ : ∃ V, V = wrTo T x q fi (j + 1) := ⟨_, rfl⟩
                    rw [← hU] at HT HOU HNX
                    rw [← hV] at HOV HNX
                    have HVE := hid hV
                    have HSU := hid (size57' HOU.out.len); have HSV := hid (size57' HOV.out.len)
                    clear hU hV hvg hfe hpg
                    go_wp2_with (first | (refine wpList_load_row rfl 57 _ rfl bt rfl 57 _ (0, 0) _ HT.out Try.underlying57 rfl HSU.out ?_))
                    refine (written_any U j v wi HOU.out.len (by omega)).mono ?_
                    rintro e w5 ⟨rfl, hb5⟩
                    rw [← HNX.out]
                    have HT5 := hid (HT.out.below hb5 HT.out.lt)
                    have HB5 : Hid (Below W.heap.size W w5) := hid (Below.step HB.out hb5)
                    have HW5 : Hid (w5.ownsRow (bt + 1) 3 1 u11 (playT f g xs n k).2.length (icells (playT f g xs n k).2)) := hid (ownsRow_same HOW.out fun q hq => hb5.block q (HOW.out.lt q hq).2)
                    have HS5 : Hid (bt + 1 ≤ w5.heap.size) := hid (Nat.le_trans HSZ.out hb5.size)
                    clear hb5 hcv hcp hch hm0 hm1 hm2 hd
                    go_wp2_with (first | (refine wpList_store_row rfl 57 _ _ rfl bt (icells V).toArray rfl rfl 57 _ HT5.out HSV.out (by simp only [List.size_toArray, icells_len]; rw [HOU.out.len, HOV.out.len]) (all_oneCell_toArray (icells_one V)) ?_))
                    obtain ⟨w6, hw6⟩ : ∃ z, z = w5.setRow bt (icells V).toArray := ⟨_, rfl⟩
                    rw [← hw6]
                    have HT6 : Hid (ToneAt w6 bt V) := hid (by rw [hw6]; exact setRow_heap w5 _ _ _ 57 (0, 0) HT5.out)
                    have HB6 : Hid (Below W.heap.size W w6) := hid (by rw [hw6]; exact Below.row HB5.out HBT.out _)
                    have HW6 : Hid (w6.ownsRow (bt + 1) 3 1 u11 (playT f g xs n k).2.length (icells (playT f g xs n k).2)) := hid (by rw [hw6]; exact ownsRow_same HW5.out fun q hq => setRow_other _ _ _ _ (by have := HW5.out.lt q hq; omega))
                    have HS6 : Hid (bt + 1 ≤ w6.heap.size) := hid (by rw [hw6]; simpa [World.setRow] using HS5.out)
                    clear hw6
                    go_roundg (14 - (j + 1))
                    case measure => omega
                    case rel => exact ⟨j + 1, by omega, rfl, by go_num, hid (by rw [← HVE.out]; exact HT6.out), HW6, HB6, HS6⟩
                  | false =>
                    have HNX : Hid (wrTo T x q fi (j + 1) = wrTo T x q fi j) := hid (by rw [wrTo, hvg, hpg, hd, hfe]; simp)
                    clear hvg hfe hpg
                    go_wp2
                    go_roundg (14 - (j + 1))
                    case measure => omega
                    case rel => exact ⟨j + 1, by omega, rfl, by go_num, hid (by rw [HNX.out]; exact HT.out), HOW, HB, HSZ⟩
              · obtain rfl : j = 14 := by omega
                have HOZ : Hid (OkT (wrTo T x q fi 14)) := hid (HOK.out.wrTo HXR.out HXL.out 14 (Nat.le_refl _))
                have HOR := hid (HOZ.out.runT HG.out n)
                obtain ⟨Z, hZ⟩ : ∃ Z, Z = wrTo T x q fi 14 := ⟨_, rfl⟩
                rw [← hZ] at HT HOZ HNT HNO HOR
                have HSZ' := hid (size57' HOZ.out.len); have HSR := hid (size57' HOR.out.len)
                clear hZ
                go_wp2_with (first | (refine wpList_load_row rfl 57 _ rfl bt rfl 57 _ (0, 0) _ HT.out Try.underlying57 rfl HSZ'.out ?_))
                refine (runs_any f g HF.out HG.out Z n wi HOZ.out (by have := HN.out; omega)).mono ?_
                rintro e w5 ⟨bo, co, rfl, hbo, hout, hb5⟩
                have HT5 := hid (HT.out.below hb5 HT.out.lt)
                have HB5 : Hid (Below W.heap.size W w5) := hid (Below.step HB.out hb5)
                have HW5 : Hid (w5.ownsRow (bt + 1) 3 1 u11 (playT f g xs n k).2.length (icells (playT f g xs n k).2)) := hid (ownsRow_same HOW.out fun q hq => hb5.block q (HOW.out.lt q hq).2)
                have HS5 : Hid (bt + 1 ≤ w5.heap.size) := hid (Nat.le_trans HSZ.out hb5.size)
                have HNB : Hid (bo ≠ bt) := hid (by have := HT.out.lt; omega)
                have HOUT := hid hout
                clear hb5 hbo hout
                go_upto_region 30 with (first | (refine wpList_store_row rfl 57 _ _ rfl bt (icells (runT g Z n)).toArray rfl rfl 57 _ HT5.out HSR.out (by simp only [List.size_toArray, icells_len]; rw [HOZ.out.len, HOR.out.len]) (all_oneCell_toArray (icells_one _)) ?_))
                obtain ⟨w6, hw6⟩ : ∃ z, z = w5.setRow bt (icells (runT g Z n)).toArray := ⟨_, rfl⟩
                rw [← hw6]
                have HT6 : Hid (ToneAt w6 bt (runT g Z n)) := hid (by rw [hw6]; exact setRow_heap w5 _ _ _ 57 (0, 0) HT5.out)
                have HB6 : Hid (Below W.heap.size W w6) := hid (by rw [hw6]; exact Below.row HB5.out HBT.out _)
                have HW6 : Hid (w6.ownsRow (bt + 1) 3 1 u11 (playT f g xs n k).2.length (icells (playT f g xs n k).2)) := hid (by rw [hw6]; exact ownsRow_same HW5.out fun q hq => setRow_other _ _ _ _ (by have := HW5.out.lt q hq; omega))
                have HS6 : Hid (bt + 1 ≤ w6.heap.size) := hid (by rw [hw6]; simpa [World.setRow] using HS5.out)
                have HO6 : Hid (OutAt w6 bo (outT f g Z n n)) := hid (by unfold OutAt; rw [hw6, setRow_other _ _ _ _ HNB.out]; exact HOUT.out)
                have HNEWS : Hid (∀ j u, (icells (outT f g Z n n))[j]? = some u → w6.cell? ((⟨bo, 0, none⟩ : Addr).add j) = some u) := hid (fun j u hu => by rw [add_at _ rfl, Nat.zero_add]; exact cell_of_cells HO6.out (by simpa using hu))
                have HLB : Hid ((playT f g xs n k).2.length ≤ 24000) := hid (by rw [HPL.out]; have h1 := H6.out; have h2 := HN.out; calc n * k ≤ 40 * 600 := Nat.mul_le_mul h2 (by omega)
                  _ = 24000 := rfl)
                clear hw6
                go_wp2_with (first | (at_builtin; refine wpList_append_own _ rfl _ _ 30 rfl (bt + 1) 3 i0 _ 1 8 Try.underlying30 HI.out HZ0.out HZ1.out HZ2.out rfl (by decide) u11 (playT f g xs n k).2.length (icells (playT f g xs n k).2) rfl HW6.out ⟨bo, 0, none⟩ n co (icells (outT f g Z n n)) rfl (by rw [icells_len, outT_len, Nat.mul_one]) HNEWS.out (icells_one _) (by have := HLB.out; have := HN.out; unfold maxLen; omega) (by have := HLB.out; have := HN.out; omega) HS6.out ?_))
                rintro v' w7 hown hgr -
                have HW7 : Hid (w7.ownsRow (bt + 1) 3 1 v' (playT f g xs n (k + 1)).2.length (icells (playT f g xs n (k + 1)).2)) := hid (by rw [HNO.out, List.length_append, outT_len, show icells ((playT f g xs n k).2 ++ outT f g Z n n) = icells (playT f g xs n k).2 ++ icells (outT f g Z n n) by simp [icells]]; exact hown)
                have HB7 : Hid (Below W.heap.size W w7) := hid (Below.grown HB6.out hgr HB6.out.size (fun q hq => by have := HW6.out.lt q hq; have := HBT.out; omega))
                have HT7 : Hid (ToneAt w7 bt (playT f g xs n (k + 1)).1) := hid (by rw [HNT.out]; exact (hgr.block bt HT6.out.lt (fun e => by have := HW6.out.lt bt e.symm; omega)).trans HT6.out)
                have HS7 : Hid (bt + 1 ≤ w7.heap.size) := hid (Nat.le_trans HS6.out hgr.size)
                have hk4 : k < 4000 := by have := H6.out; omega
                clear hown hgr
                go_wp2
                go_roundg (xs.length - (k + 1))
                case measure => omega
                case rel => exact ⟨k + 1, by omega, rfl, by go_num, HT7, HW7, HB7, HS7⟩
          · obtain rfl : k = xs.length := by omega
            obtain ⟨A2, c2, rfl, hA2⟩ := owned_form HOW.out
            have HA2 := hid hA2
            clear hA2
            go_wp2
            go_ret2
            refine ⟨A2, c2, rfl, fun h0 => ?_, HB.out⟩
            obtain ⟨g1, rfl, _, _⟩ := HA2.out h0
            exact ⟨g1, 0, rfl, own_range HOW.out⟩
end Go.Proofs.Ytmogoaceangblaa
