/- MixBounds: plain facts on finished frames, and the law's walk. -/
import Derived.Test.YtjefhconahdbiaaFinishLaw
namespace Go.Proofs.Ytjefhconahdbiaa
open Go.RowKit

theorem clampI_lo (x lo hi : Int) : lo ≤ clampI x lo hi := by unfold clampI; omega
theorem clampI_hi (x lo hi : Int) (h : lo ≤ hi) : clampI x lo hi ≤ hi := by unfold clampI; omega
def inTop (bits : Int) (f : Int × Int) : Prop := if bits = 16 then (-32768 ≤ f.1 ∧ f.1 ≤ 32767) ∧ -32768 ≤ f.2 ∧ f.2 ≤ 32767 else (-128 ≤ f.1 ∧ f.1 ≤ 127) ∧ -128 ≤ f.2 ∧ f.2 ≤ 127
theorem lev_top (amp bits : Int) (dith : Bool) (v s : Int) : if bits = 16 then -32768 ≤ (lev amp bits dith v s).1 ∧ (lev amp bits dith v s).1 ≤ 32767 else -128 ≤ (lev amp bits dith v s).1 ∧ (lev amp bits dith v s).1 ≤ 127 := by
  unfold lev
  split
  · exact ⟨clampI_lo _ _ _, clampI_hi _ _ _ (by omega)⟩
  · split
    · exact ⟨clampI_lo _ _ _, clampI_hi _ _ _ (by omega)⟩
    · exact ⟨clampI_lo _ _ _, clampI_hi _ _ _ (by omega)⟩
theorem finTo_top (sep amp bits : Int) (dith : Bool) (xs : List (Int × Int)) (s : Int) (k : Nat) : ∀ f ∈ (finTo sep amp bits dith xs s k).1, inTop bits f := by
  induction k with
  | zero => intro f hf; simp [finTo] at hf
  | succ k ih =>
    intro f hf
    unfold finTo at hf
    simp only [List.mem_append, List.mem_singleton] at hf
    rcases hf with hf | rfl
    · exact ih f hf
    · unfold inTop stp
      have h1 := lev_top amp bits dith (((xs.getD k (0, 0)).1 + (xs.getD k (0, 0)).2 + ((xs.getD k (0, 0)).1 - (xs.getD k (0, 0)).2) * sep / 256) / 2) (finTo sep amp bits dith xs s k).2
      have h2 := lev_top amp bits dith (((xs.getD k (0, 0)).1 + (xs.getD k (0, 0)).2 - ((xs.getD k (0, 0)).1 - (xs.getD k (0, 0)).2) * sep / 256) / 2) (lev amp bits dith (((xs.getD k (0, 0)).1 + (xs.getD k (0, 0)).2 + ((xs.getD k (0, 0)).1 - (xs.getD k (0, 0)).2) * sep / 256) / 2) (finTo sep amp bits dith xs s k).2).2
      split at h1
      · rename_i hb; rw [if_pos hb] at h2 ⊢; exact ⟨h1, h2⟩
      · rename_i hb; rw [if_neg hb] at h2 ⊢; exact ⟨h1, h2⟩
def clip (f : Int × Int) : Int × Int := (clampI f.1 (-32768) 32767, clampI f.2 (-32768) 32767)
theorem lev_plain (dith : Bool) (v s : Int) : lev 128 16 dith v s = (clampI v (-32768) 32767, s) := by
  unfold lev
  rw [if_pos rfl, show v * 128 / 128 = v by omega]
theorem stp_plain (dith : Bool) (f : Int × Int) (s : Int) : stp 256 128 16 dith f s = (clip f, s) := by
  unfold stp
  rw [show (f.1 + f.2 + (f.1 - f.2) * 256 / 256) / 2 = f.1 by omega, show (f.1 + f.2 - (f.1 - f.2) * 256 / 256) / 2 = f.2 by omega]
  simp only [lev_plain]
  rfl
theorem finTo_plain (dith : Bool) (xs : List (Int × Int)) (s : Int) (k : Nat) (hk : k ≤ xs.length) : finTo 256 128 16 dith xs s k = ((xs.take k).map clip, s) := by
  induction k with
  | zero => rfl
  | succ k ih =>
    unfold finTo
    rw [ih (by omega), stp_plain]
    have hk' : xs[k]? = some (xs[k]'(by omega)) := List.getElem?_eq_getElem (by omega)
    have hg : xs.getD k (0, 0) = xs[k]'(by omega) := by rw [List.getD, hk']; rfl
    have ht : xs.take (k + 1) = xs.take k ++ [xs[k]'(by omega)] := by rw [List.take_add_one, hk']; rfl
    rw [hg, ht, List.map_append]
    rfl

/-- What the law asks of the two calls. -/
def TwoCalls (A : Option Addr) (xs : List (Int × Int)) (c : Nat) (rate interp sep amp bits : Int) (dith : Bool) (s : Int) (w : World) : Prop :=
  (∃ er : Int, er ≠ 0 ∧ ∀ w1, Below w.heap.size w w1 → Calls Try.prog 28 #[.slice A xs.length c, .agg (ocells rate interp sep amp bits dith).toArray, .int .i64 s] w1 fun e w' =>
      ∃ A c, e = .returned (.tuple #[.slice A 0 c, .int .i64 0, .int .i64 er]) ∧ Below w1.heap.size w1 w') ∨
  ((bits = 8 ∨ bits = 16) ∧ ∃ (fs : List (Int × Int)) (sd : Int), fs.length = xs.length ∧ (∀ f ∈ fs, inTop bits f) ∧
    (∀ w1, Below w.heap.size w w1 → Calls Try.prog 28 #[.slice A xs.length c, .agg (ocells rate interp sep amp bits dith).toArray, .int .i64 s] w1 fun e w' =>
      ∃ A c, e = .returned (.tuple #[.slice A xs.length c, .int .i64 sd, .int .i64 0]) ∧ FramesAt w' A fs ∧ Below w1.heap.size w1 w') ∧
    (∀ w1, Below w.heap.size w w1 → Calls Try.prog 28 #[.slice A xs.length c, .agg (ocells rate interp 256 128 16 dith).toArray, .int .i64 s] w1 fun e w' =>
      ∃ A c, e = .returned (.tuple #[.slice A xs.length c, .int .i64 s, .int .i64 0]) ∧ FramesAt w' A (xs.map clip) ∧ Below w1.heap.size w1 w'))
theorem two_calls (A : Option Addr) (xs : List (Int × Int)) (c : Nat) (rate interp sep amp bits : Int) (dith : Bool) (s : Int) (w : World) (hx : FramesAt w A xs) (hn : xs.length ≤ 200000) :
    TwoCalls A xs c rate interp sep amp bits dith s w := by
  have h1 := fun w1 (hb : Below w.heap.size w w1) => finish_any A xs c rate interp sep amp bits dith s w1 (hx.below hb) hn
  have h2 := fun w1 (hb : Below w.heap.size w w1) => finish_any A xs c rate interp 256 128 16 dith s w1 (hx.below hb) hn
  cases hok : optOK rate interp sep amp bits with
  | false =>
    left
    refine ⟨1, by decide, fun w1 hb => (h1 w1 hb).mono ?_⟩
    rintro e w' ⟨A, c, rfl, _, hb'⟩
    unfold finR
    rw [if_pos hok]
    exact ⟨_, _, rfl, hb'⟩
  | true =>
    cases hsd : (inr s 0 2147483647 && allOK xs) with
    | false =>
      left
      refine ⟨5, by decide, fun w1 hb => (h1 w1 hb).mono ?_⟩
      rintro e w' ⟨A, c, rfl, _, hb'⟩
      unfold finR
      rw [if_neg (by rw [hok]; decide), if_pos hsd]
      exact ⟨_, _, rfl, hb'⟩
    | true =>
      right
      have hok2 : optOK rate interp 256 128 16 = true := by
        unfold optOK at hok ⊢
        rw [Bool.and_eq_true, Bool.and_eq_true, Bool.and_eq_true, Bool.and_eq_true] at hok
        rw [hok.1.1.1.1, hok.1.1.1.2]
        rfl
      refine ⟨?_, (finTo sep amp bits dith xs s xs.length).1, (finTo sep amp bits dith xs s xs.length).2, finTo_len _ _ _ _ _ _ _, finTo_top _ _ _ _ _ _ _, fun w1 hb => (h1 w1 hb).mono ?_, fun w1 hb => (h2 w1 hb).mono ?_⟩
      · unfold optOK at hok
        rw [Bool.and_eq_true, Bool.or_eq_true, beq_iff_eq, beq_iff_eq] at hok
        exact hok.2
      · unfold Ended finR
        rw [if_neg (by rw [hok]; decide), if_neg (by rw [hsd]; decide)]
        rintro e w' ⟨A, c, rfl, hf, hb'⟩
        exact ⟨A, c, by rw [finTo_len], hf, hb'⟩
      · unfold Ended finR
        rw [if_neg (by rw [hok2]; decide), if_neg (by rw [hsd]; decide), finTo_plain dith xs s xs.length (Nat.le_refl _), List.take_length]
        rintro e w' ⟨A, c, rfl, hf, hb'⟩
        exact ⟨A, c, by simp, hf, hb'⟩

set_option maxHeartbeats 40000000 in
set_option maxRecDepth 100000 in
theorem bounds_law (A : Option Addr) (xs : List (Int × Int)) (c : Nat) (rate interp sep amp bits : Int) (dith : Bool) (s : Int) (w : World) (hx : FramesAt w A xs) :
    Calls Try.prog 9 #[.agg (endcells A xs.length c rate interp sep amp bits dith s).toArray] w fun e w' => e = .returned (.bool true) ∧ Below w.heap.size w w' := by
  have HX := hid hx; clear hx
  have HR1 : Hid ((w.alloc (.cells (endcells A xs.length c rate interp sep amp bits dith s).toArray 51)).rangeAt w.heap.size 0 (endcells A xs.length c rate interp sep amp bits dith s)) := hid (by
    have := range_made w (endcells A xs.length c rate interp sep amp bits dith s).toArray 51
    simpa using this)
  have HB1 := hid (Below.grow (Below.refl w.heap.size w) (.cells (endcells A xs.length c rate interp sep amp bits dith s).toArray 51))
  have hs1' : w.heap.size < (w.alloc (.cells (endcells A xs.length c rate interp sep amp bits dith s).toArray 51)).heap.size := by simp
  have c0 := HR1.out 0 _ rfl; have c1 := HR1.out 1 _ rfl; have c2 := HR1.out 2 _ rfl; have c3 := HR1.out 3 _ rfl; have c4 := HR1.out 4 _ rfl; have c5 := HR1.out 5 _ rfl; have c6 := HR1.out 6 _ rfl; have c7 := HR1.out 7 _ rfl
  simp only [Nat.zero_add] at c0 c1 c2 c3 c4 c5 c6 c7
  by_cases hl : 2000 < xs.length
  · have hl' : decide (2000 < (xs.length : Int)) = true := decide_eq_true (by omega)
    clear hl c1 c2 c3 c4 c5 c6 c7
    go_enter Try.func9, Try.ntmps9
    go_wp2
    go_ret
    exact ⟨rfl, HB1.out⟩
  · have hl' : decide (2000 < (xs.length : Int)) = false := decide_eq_false (by omega)
    rcases two_calls A xs c rate interp sep amp bits dith s w HX.out (by omega) with ⟨er, her, h1⟩ | ⟨hbits, fs, sd, hfl, htop, h1, h2⟩
    · have H1 := hid h1; clear h1
      have her' : (er != 0) = true := by rw [bne_iff_ne]; exact her
      clear her
      go_enter Try.func9, Try.ntmps9
      go_wp2_with fail
      refine (H1.out _ HB1.out).mono ?_
      rintro e w2 ⟨A1, c1', rfl, hb⟩
      have HB2 := hid (Below.step HB1.out hb); clear hb
      go_wp2
      go_ret
      exact ⟨rfl, HB2.out⟩
    · have H1 := hid h1; have H2 := hid h2; have HTOP := hid htop; have HFL := hid hfl; clear h1 h2 htop hfl
      obtain ⟨T, hT, HT⟩ : ∃ T : Int, (T = 128 ∧ bits = 8 ∨ T = 32768 ∧ bits = 16) ∧ Hid (∀ f ∈ fs, (-T ≤ f.1 ∧ f.1 < T) ∧ -T ≤ f.2 ∧ f.2 < T) := by
        rcases hbits with rfl | rfl
        · refine ⟨128, Or.inl ⟨rfl, rfl⟩, hid fun f hf => ?_⟩
          have := HTOP.out f hf; unfold inTop at this; rw [if_neg (by decide)] at this; omega
        · refine ⟨32768, Or.inr ⟨rfl, rfl⟩, hid fun f hf => ?_⟩
          have := HTOP.out f hf; unfold inTop at this; rw [if_pos rfl] at this; omega
      clear HTOP hbits
      go_enter Try.func9, Try.ntmps9
      go_wp2_with fail
      refine (H1.out _ HB1.out).mono ?_
      rintro e w2 ⟨A1, c1', rfl, hf1, hb⟩
      have HB2 := hid (Below.step HB1.out hb)
      have HR2 := hid (rangeAt_below HR1.out hb)
      have d0 := HR2.out 0 _ rfl; have d1 := HR2.out 1 _ rfl; have d2 := HR2.out 2 _ rfl; have d3 := HR2.out 3 _ rfl; have d4 := HR2.out 4 _ rfl; have d5 := HR2.out 5 _ rfl; have d6 := HR2.out 6 _ rfl; have d7 := HR2.out 7 _ rfl
      simp only [Nat.zero_add] at d0 d1 d2 d3 d4 d5 d6 d7
      have HF1 := hid hf1
      have hh2 : w.heap.size < w2.heap.size := by have := hb.size; omega
      clear hb hf1 c0 c1 c2 c3 c4 c5 c6 c7
      have hshl : (1 : Int) * 2 ^ 7 = 128 := by decide
      rcases hT with ⟨rfl, rfl⟩ | ⟨rfl, rfl⟩
      · go_wp2
        go_loopw [40] (fun i wr => ∃ k : Nat, k ≤ xs.length ∧ i = .int .i64 k ∧ Hid (Below w2.heap.size w2 wr)) (fun i _ => xs.length - (intOf i).toNat)
        case atStart => exact ⟨0, Nat.zero_le _, rfl, hid (Below.refl _ _)⟩
        case round =>
          obtain ⟨k, hk, rfl, HB⟩ := hrel
          by_cases hlt : k < xs.length
          · obtain ⟨b, off, x, y, rfl, hxk, hc1, hc2⟩ := (HF1.out.below HB.out) k (by have := HFL.out; omega)
            obtain ⟨⟨hx1, hx2⟩, hy1, hy2⟩ := HT.out _ (List.mem_of_getElem? hxk)
            simp only at hx1 hx2 hy1 hy2
            have t1 : decide (x < -128) = false := decide_eq_false (by omega)
            have t2 : decide (128 ≤ x) = false := decide_eq_false (by omega)
            have t3 : decide (y < -128) = false := decide_eq_false (by omega)
            have t4 : decide (128 ≤ y) = false := decide_eq_false (by omega)
            have HRW : Hid (wr.rangeAt b (off + k * 2) [.int .i64 x, .int .i64 y]) := hid (by
              intro j v hj
              match j, hj with
              | 0, hj => simp at hj; subst hj; exact hc1
              | 1, hj => simp at hj; subst hj; exact hc2)
            have HS45 : Hid ((Try.prog.info? 45).map (·.size) = some 2) := hid (by kernel_rfl)
            have HB2' := hid (Below.grow HB.out (.cells #[.int .i64 x, .int .i64 y] 45))
            have hk0 : (0 : Int) ≤ (k : Int) := Int.natCast_nonneg _
            have hk1 : (k : Int) < (xs.length : Int) := by omega
            clear hc1 hc2 hxk HB
            go_wp2_with (first | (refine wpList_load_mid rfl 45 _ rfl b (off + k * 2) rfl [.int .i64 x, .int .i64 y] _ HRW.out Try.underlying45 rfl HS45.out ?_) | (refine wpList_store_new rfl 45 _ _ rfl _ #[.int .i64 x, .int .i64 y] rfl rfl HS45.out rfl rfl ?_))
            go_roundw
            case rel => exact ⟨k + 1, by omega, by go_num, HB2'.out⟩
            case measure => simp [intOf]; omega
          · obtain rfl : k = xs.length := by omega
            have HR3 := hid (rangeAt_below HR2.out HB.out)
            have e0 := HR3.out 0 _ rfl; have e1 := HR3.out 1 _ rfl; have e2 := HR3.out 2 _ rfl; have e3 := HR3.out 3 _ rfl; have e4 := HR3.out 4 _ rfl; have e5 := HR3.out 5 _ rfl; have e6 := HR3.out 6 _ rfl; have e7 := HR3.out 7 _ rfl
            simp only [Nat.zero_add] at e0 e1 e2 e3 e4 e5 e6 e7
            clear d0 d1 d2 d3 d4 d5 d6 d7
            have hh3 : w.heap.size < wr.heap.size := by have := HB.out.size; omega
            have g0 : ∀ o, (wr.alloc o).cell? ⟨w.heap.size, 0, none⟩ = some (.slice A xs.length c) := fun o => ((Below.grow (Below.refl wr.heap.size wr) o).cell (p := ⟨w.heap.size, 0, none⟩) hh3).trans e0
            have g7 : ∀ o, (wr.alloc o).cell? ⟨w.heap.size, 7, none⟩ = some (.int .i64 s) := fun o => ((Below.grow (Below.refl wr.heap.size wr) o).cell (p := ⟨w.heap.size, 7, none⟩) hh3).trans e7
            have HB4 : Hid (∀ o, Below w.heap.size w (wr.alloc o)) := hid (fun o => Below.step HB2.out (Below.alloc HB.out HB.out.size o))
            have HR4 : Hid (∀ o, (wr.alloc o).rangeAt w.heap.size 0 (endcells A xs.length c rate interp sep amp 8 dith s)) := hid (fun o => rangeAt_below HR3.out (Below.grow (Below.refl _ _) o))
            go_wp2_with fail
            refine (H2.out _ (HB4.out _)).mono ?_
            rintro e w5 ⟨A2, c2', rfl, hf2, hb⟩
            have HB5 := hid (Below.step (HB4.out _) hb)
            have HR5 := hid (rangeAt_below (HR4.out _) hb)
            have d0 := HR5.out 0 _ rfl; have d7 := HR5.out 7 _ rfl
            simp only [Nat.zero_add] at d0 d7
            have HF2 := hid hf2
            clear hb hf2 e0 e1 e2 e3 e4 e5 e6 e7 g0 g7
            go_wp2
            go_loopw [109] (fun i wi => ∃ k : Nat, k ≤ xs.length ∧ i = .int .i64 k ∧ Hid (Below w.heap.size w wi) ∧ Hid (Below w5.heap.size w5 wi)) (fun i _ => xs.length - (intOf i).toNat)
            case atStart => exact ⟨0, Nat.zero_le _, rfl, HB5.out, hid (Below.refl _ _)⟩
            case round =>
              obtain ⟨k, hk, rfl, HBa, HBb⟩ := hrel
              by_cases hlt2 : k < xs.length
              · obtain ⟨b, off, x, y, rfl, hxk, hc1, hc2⟩ := (HX.out.below HBa.out) k hlt2
                obtain ⟨b', off', x', y', rfl, hxk', hd1, hd2⟩ := (HF2.out.below HBb.out) k (by simp; exact hlt2)
                have hcl : clip (x, y) = (x', y') := by
                  rw [List.getElem?_map, hxk] at hxk'
                  exact Option.some.inj hxk'
                have hx' : x' = max (-32768) (min 32767 x) := (congrArg Prod.fst hcl).symm
                have hy' : y' = max (-32768) (min 32767 y) := (congrArg Prod.snd hcl).symm
                have HRW : Hid (wr.rangeAt b (off + k * 2) [.int .i64 x, .int .i64 y]) := hid (by
                  intro j v hj
                  match j, hj with
                  | 0, hj => simp at hj; subst hj; exact hc1
                  | 1, hj => simp at hj; subst hj; exact hc2)
                have HS45 : Hid ((Try.prog.info? 45).map (·.size) = some 2) := hid (by kernel_rfl)
                have HBa' := hid (Below.grow HBa.out (.cells #[.int .i64 x, .int .i64 y] 45))
                have HBb' := hid (Below.grow HBb.out (.cells #[.int .i64 x, .int .i64 y] 45))
                have hk0 : (0 : Int) ≤ (k : Int) := Int.natCast_nonneg _
                have hk1 : (k : Int) < (xs.length : Int) := by omega
                have hw2 := range_made wr #[.int .i64 x, .int .i64 y] 45
                have hc0 : (wr.alloc (.cells #[.int .i64 x, .int .i64 y] 45)).cell? ⟨wr.heap.size, 0, none⟩ = some (.int .i64 x) := hw2 0 _ rfl
                have hc3 : (wr.alloc (.cells #[.int .i64 x, .int .i64 y] 45)).cell? ⟨wr.heap.size, 1, none⟩ = some (.int .i64 y) := hw2 1 _ rfl
                have hbl : Below wr.heap.size wr (wr.alloc (.cells #[.int .i64 x, .int .i64 y] 45)) := Below.grow (Below.refl _ _) _
                have hl1 := (hbl.cell (p := ⟨b', off' + k * 2, none⟩) (World.block_lt_of_cell? wr _ hd1)).trans hd1
                have hl2 := (hbl.cell (p := ⟨b', off' + k * 2 + 1, none⟩) (World.block_lt_of_cell? wr _ hd2)).trans hd2
                clear hc1 hc2 hxk hxk' hd1 hd2 HBa HBb hcl hw2 hbl d0 d7
                go_wp2_with (first | (refine wpList_load_mid rfl 45 _ rfl b (off + k * 2) rfl [.int .i64 x, .int .i64 y] _ HRW.out Try.underlying45 rfl HS45.out ?_) | (refine wpList_store_new rfl 45 _ _ rfl _ #[.int .i64 x, .int .i64 y] rfl rfl HS45.out rfl rfl ?_))
                have hxc : (x' = x ∧ -32768 < x ∧ x < 32767) ∨ (x' = -32768 ∧ x < 32767 ∧ ¬ -32768 < x) ∨ (x' = 32767 ∧ ¬ x < 32767) := by omega
                have hyc : (y' = y ∧ -32768 < y ∧ y < 32767) ∨ (y' = -32768 ∧ y < 32767 ∧ ¬ -32768 < y) ∨ (y' = 32767 ∧ ¬ y < 32767) := by omega
                clear hx' hy'
                clear HRW HX HR1 HB1 H1 H2
                generalize wr.alloc (Obj.cells #[Value.int IntKind.i64 x, Value.int IntKind.i64 y] 45) = w6 at *
                rcases hxc with ⟨rfl, hxa, hxb⟩ | ⟨rfl, hxa, hxb⟩ | ⟨rfl, hxa⟩ <;> rcases hyc with ⟨rfl, hya, hyb⟩ | ⟨rfl, hya, hyb⟩ | ⟨rfl, hya⟩
                all_goals
                  go_quiet (fail)
                  have HBc := hid (below_drewN HBa'.out nq); have HBd := hid (below_drewN HBb'.out nq)
                  go_wp2
                  go_roundw
                  case rel => exact ⟨k + 1, by omega, by go_num, HBc.out, HBd.out⟩
                  case measure => simp [intOf]; omega
              · obtain rfl : k = xs.length := by omega
                go_wp2
                go_ret
                exact ⟨rfl, HBa.out⟩
      · go_wp2
        go_loopw [40] (fun i wr => ∃ k : Nat, k ≤ xs.length ∧ i = .int .i64 k ∧ Hid (Below w2.heap.size w2 wr)) (fun i _ => xs.length - (intOf i).toNat)
        case atStart => exact ⟨0, Nat.zero_le _, rfl, hid (Below.refl _ _)⟩
        case round =>
          obtain ⟨k, hk, rfl, HB⟩ := hrel
          by_cases hlt : k < xs.length
          · obtain ⟨b, off, x, y, rfl, hxk, hc1, hc2⟩ := (HF1.out.below HB.out) k (by have := HFL.out; omega)
            obtain ⟨⟨hx1, hx2⟩, hy1, hy2⟩ := HT.out _ (List.mem_of_getElem? hxk)
            simp only at hx1 hx2 hy1 hy2
            have t1 : decide (x < -32768) = false := decide_eq_false (by omega)
            have t2 : decide (32768 ≤ x) = false := decide_eq_false (by omega)
            have t3 : decide (y < -32768) = false := decide_eq_false (by omega)
            have t4 : decide (32768 ≤ y) = false := decide_eq_false (by omega)
            have HRW : Hid (wr.rangeAt b (off + k * 2) [.int .i64 x, .int .i64 y]) := hid (by
              intro j v hj
              match j, hj with
              | 0, hj => simp at hj; subst hj; exact hc1
              | 1, hj => simp at hj; subst hj; exact hc2)
            have HS45 : Hid ((Try.prog.info? 45).map (·.size) = some 2) := hid (by kernel_rfl)
            have HB2' := hid (Below.grow HB.out (.cells #[.int .i64 x, .int .i64 y] 45))
            have hk0 : (0 : Int) ≤ (k : Int) := Int.natCast_nonneg _
            have hk1 : (k : Int) < (xs.length : Int) := by omega
            clear hc1 hc2 hxk HB
            go_wp2_with (first | (refine wpList_load_mid rfl 45 _ rfl b (off + k * 2) rfl [.int .i64 x, .int .i64 y] _ HRW.out Try.underlying45 rfl HS45.out ?_) | (refine wpList_store_new rfl 45 _ _ rfl _ #[.int .i64 x, .int .i64 y] rfl rfl HS45.out rfl rfl ?_))
            go_roundw
            case rel => exact ⟨k + 1, by omega, by go_num, HB2'.out⟩
            case measure => simp [intOf]; omega
          · obtain rfl : k = xs.length := by omega
            have HR3 := hid (rangeAt_below HR2.out HB.out)
            have e0 := HR3.out 0 _ rfl; have e1 := HR3.out 1 _ rfl; have e2 := HR3.out 2 _ rfl; have e3 := HR3.out 3 _ rfl; have e4 := HR3.out 4 _ rfl; have e5 := HR3.out 5 _ rfl; have e6 := HR3.out 6 _ rfl; have e7 := HR3.out 7 _ rfl
            simp only [Nat.zero_add] at e0 e1 e2 e3 e4 e5 e6 e7
            clear d0 d1 d2 d3 d4 d5 d6 d7
            have hh3 : w.heap.size < wr.heap.size := by have := HB.out.size; omega
            have g0 : ∀ o, (wr.alloc o).cell? ⟨w.heap.size, 0, none⟩ = some (.slice A xs.length c) := fun o => ((Below.grow (Below.refl wr.heap.size wr) o).cell (p := ⟨w.heap.size, 0, none⟩) hh3).trans e0
            have g7 : ∀ o, (wr.alloc o).cell? ⟨w.heap.size, 7, none⟩ = some (.int .i64 s) := fun o => ((Below.grow (Below.refl wr.heap.size wr) o).cell (p := ⟨w.heap.size, 7, none⟩) hh3).trans e7
            have HB4 : Hid (∀ o, Below w.heap.size w (wr.alloc o)) := hid (fun o => Below.step HB2.out (Below.alloc HB.out HB.out.size o))
            have HR4 : Hid (∀ o, (wr.alloc o).rangeAt w.heap.size 0 (endcells A xs.length c rate interp sep amp 16 dith s)) := hid (fun o => rangeAt_below HR3.out (Below.grow (Below.refl _ _) o))
            go_wp2_with fail
            refine (H2.out _ (HB4.out _)).mono ?_
            rintro e w5 ⟨A2, c2', rfl, hf2, hb⟩
            have HB5 := hid (Below.step (HB4.out _) hb)
            have HR5 := hid (rangeAt_below (HR4.out _) hb)
            have d0 := HR5.out 0 _ rfl; have d7 := HR5.out 7 _ rfl
            simp only [Nat.zero_add] at d0 d7
            have HF2 := hid hf2
            clear hb hf2 e0 e1 e2 e3 e4 e5 e6 e7 g0 g7
            go_wp2
            go_loopw [109] (fun i wi => ∃ k : Nat, k ≤ xs.length ∧ i = .int .i64 k ∧ Hid (Below w.heap.size w wi) ∧ Hid (Below w5.heap.size w5 wi)) (fun i _ => xs.length - (intOf i).toNat)
            case atStart => exact ⟨0, Nat.zero_le _, rfl, HB5.out, hid (Below.refl _ _)⟩
            case round =>
              obtain ⟨k, hk, rfl, HBa, HBb⟩ := hrel
              by_cases hlt2 : k < xs.length
              · obtain ⟨b, off, x, y, rfl, hxk, hc1, hc2⟩ := (HX.out.below HBa.out) k hlt2
                obtain ⟨b', off', x', y', rfl, hxk', hd1, hd2⟩ := (HF2.out.below HBb.out) k (by simp; exact hlt2)
                have hcl : clip (x, y) = (x', y') := by
                  rw [List.getElem?_map, hxk] at hxk'
                  exact Option.some.inj hxk'
                have hx' : x' = max (-32768) (min 32767 x) := (congrArg Prod.fst hcl).symm
                have hy' : y' = max (-32768) (min 32767 y) := (congrArg Prod.snd hcl).symm
                have HRW : Hid (wr.rangeAt b (off + k * 2) [.int .i64 x, .int .i64 y]) := hid (by
                  intro j v hj
                  match j, hj with
                  | 0, hj => simp at hj; subst hj; exact hc1
                  | 1, hj => simp at hj; subst hj; exact hc2)
                have HS45 : Hid ((Try.prog.info? 45).map (·.size) = some 2) := hid (by kernel_rfl)
                have HBa' := hid (Below.grow HBa.out (.cells #[.int .i64 x, .int .i64 y] 45))
                have HBb' := hid (Below.grow HBb.out (.cells #[.int .i64 x, .int .i64 y] 45))
                have hk0 : (0 : Int) ≤ (k : Int) := Int.natCast_nonneg _
                have hk1 : (k : Int) < (xs.length : Int) := by omega
                have hw2 := range_made wr #[.int .i64 x, .int .i64 y] 45
                have hc0 : (wr.alloc (.cells #[.int .i64 x, .int .i64 y] 45)).cell? ⟨wr.heap.size, 0, none⟩ = some (.int .i64 x) := hw2 0 _ rfl
                have hc3 : (wr.alloc (.cells #[.int .i64 x, .int .i64 y] 45)).cell? ⟨wr.heap.size, 1, none⟩ = some (.int .i64 y) := hw2 1 _ rfl
                have hbl : Below wr.heap.size wr (wr.alloc (.cells #[.int .i64 x, .int .i64 y] 45)) := Below.grow (Below.refl _ _) _
                have hl1 := (hbl.cell (p := ⟨b', off' + k * 2, none⟩) (World.block_lt_of_cell? wr _ hd1)).trans hd1
                have hl2 := (hbl.cell (p := ⟨b', off' + k * 2 + 1, none⟩) (World.block_lt_of_cell? wr _ hd2)).trans hd2
                clear hc1 hc2 hxk hxk' hd1 hd2 HBa HBb hcl hw2 hbl d0 d7
                go_wp2_with (first | (refine wpList_load_mid rfl 45 _ rfl b (off + k * 2) rfl [.int .i64 x, .int .i64 y] _ HRW.out Try.underlying45 rfl HS45.out ?_) | (refine wpList_store_new rfl 45 _ _ rfl _ #[.int .i64 x, .int .i64 y] rfl rfl HS45.out rfl rfl ?_))
                have hxc : (x' = x ∧ -32768 < x ∧ x < 32767) ∨ (x' = -32768 ∧ x < 32767 ∧ ¬ -32768 < x) ∨ (x' = 32767 ∧ ¬ x < 32767) := by omega
                have hyc : (y' = y ∧ -32768 < y ∧ y < 32767) ∨ (y' = -32768 ∧ y < 32767 ∧ ¬ -32768 < y) ∨ (y' = 32767 ∧ ¬ y < 32767) := by omega
                clear hx' hy'
                clear HRW HX HR1 HB1 H1 H2
                generalize wr.alloc (Obj.cells #[Value.int IntKind.i64 x, Value.int IntKind.i64 y] 45) = w6 at *
                rcases hxc with ⟨rfl, hxa, hxb⟩ | ⟨rfl, hxa, hxb⟩ | ⟨rfl, hxa⟩ <;> rcases hyc with ⟨rfl, hya, hyb⟩ | ⟨rfl, hya, hyb⟩ | ⟨rfl, hya⟩
                all_goals
                  go_quiet (fail)
                  have HBc := hid (below_drewN HBa'.out nq); have HBd := hid (below_drewN HBb'.out nq)
                  go_wp2
                  go_roundw
                  case rel => exact ⟨k + 1, by omega, by go_num, HBc.out, HBd.out⟩
                  case measure => simp [intOf]; omega
              · obtain rfl : k = xs.length := by omega
                go_wp2
                go_ret
                exact ⟨rfl, HBa.out⟩

open Go.ChangeShapes Go.WideShapes Go.ChangeAt in
set_option maxRecDepth 100000 in
theorem MixBounds_opened {H : Type} {enc : TypeId × Value → H} (W : World) (base : Nat) (v0 : Value) {d0 : DataW H} {p0 : List MemPlace}
    (o0 : Value.okWide Try.prog W .any base 51 v0) (h0 : DataW.Trod enc Try.prog W 0 (fun _ => true) true 51 v0 d0 p0) :
    Calls Try.prog 9 #[v0] W fun e w' => e = .returned (.bool true) ∧ Below W.heap.size W w' := by
  obtain ⟨A, xs, c, rate, interp, sep, amp, bits, dith, s, rfl, hx⟩ := open_end W base v0 d0 p0 o0 h0
  exact bounds_law A xs c rate interp sep amp bits dith s W hx
end Go.Proofs.Ytjefhconahdbiaa
