/- The reference's Finished finishes frames one after another. -/
import Derived.Test.YtjefhconahdbiaaBlend
import Derived.Deep.RegionHeld3
import Derived.Deep.AppendLies
namespace Go.Proofs.Ytjefhconahdbiaa
open Go.RowKit

/-- The cells of options that lie at the head of a block. -/
def OptAt (b : Nat) (rate interp sep amp bits : Int) (dith : Bool) (w3 w' : World) : Prop :=
  w'.cell? ⟨b, 0, none⟩ = some (.int .i64 rate) ∧ w'.cell? ⟨b, 1, none⟩ = some (.int .i64 interp) ∧ w'.cell? ⟨b, 2, none⟩ = some (.int .i64 sep) ∧
    w'.cell? ⟨b, 3, none⟩ = some (.int .i64 amp) ∧ w'.cell? ⟨b, 4, none⟩ = some (.int .i64 bits) ∧ w'.cell? ⟨b, 5, none⟩ = some (.bool dith) ∧ Below w3.heap.size w3 w'
theorem OptAt.of {b : Nat} {rate interp sep amp bits : Int} {dith : Bool} {w3 w' : World} (h : w3.rangeAt b 0 (ocells rate interp sep amp bits dith)) (hb : Below w3.heap.size w3 w') : OptAt b rate interp sep amp bits dith w3 w' := by
  have hr := rangeAt_below h hb
  exact ⟨hr 0 _ rfl, hr 1 _ rfl, hr 2 _ rfl, hr 3 _ rfl, hr 4 _ rfl, hr 5 _ rfl, hb⟩
theorem ownsRow_below' {w w' : World} {base : Nat} {e : TypeId} {sz n : Nat} {v : Value} {xs : List Value} (h : w.ownsRow base e sz v n xs) (hb : Below w.heap.size w w') : w'.ownsRow base e sz v n xs := by
  refine ⟨h.1, ?_⟩
  rcases h.2 with h' | ⟨g, cap, cur, h1, h2, h3, h4⟩
  · exact Or.inl h'
  · exact Or.inr ⟨g, cap, cur, h1, h2, by rw [hb.block g (by rw [Array.getElem?_eq_some_iff] at h3; exact h3.1)]; exact h3, h4⟩
theorem news_two (w : World) (l r : Int) (e : TypeId) : ∀ j u, ([Value.int .i64 l, Value.int .i64 r])[j]? = some u → (w.alloc (.cells #[.int .i64 l, .int .i64 r] e)).cell? ((⟨w.heap.size, 0, none⟩ : Addr).add j) = some u := by
  intro j u hj
  rw [add_at _ rfl]
  exact range_made w #[.int .i64 l, .int .i64 r] e j u hj
theorem size49 : (Try.prog.info? 49).map (·.size) = some 6 := by kernel_rfl
set_option maxHeartbeats 4000000 in
set_option maxRecDepth 100000 in
theorem finished_any (A : Option Addr) (xs : List (Int × Int)) (c : Nat) (rate interp sep amp bits : Int) (dith : Bool) (s : Int) (w : World) (hx : FramesAt w A xs)
    (hall : xs.all fok = true) (hn : xs.length ≤ 200000) (hsp0 : 0 ≤ sep) (hsp1 : sep ≤ 256) (ha : 0 ≤ amp) (ha2 : amp ≤ 256) (hs0 : 0 ≤ s) (hs1 : s ≤ 2147483647) :
    Calls Try.prog 57 #[.slice A xs.length c, .agg (ocells rate interp sep amp bits dith).toArray, .int .i64 s] w (Blended sep amp bits dith xs s w) := by
  have HX := hid hx; have HALL := hid hall; have HN := hid hn
  have HSEED := hid (finTo_seed sep amp bits dith xs s hs0 hs1)
  clear hx hall hn hs0 hs1
  obtain ⟨i0, hi, hz0, hz1, hz2⟩ := info_parts info45
  have HI := hid hi; have HZ0 := hid hz0; have HZ1 := hid hz1; have HZ2 := hid hz2; clear hi hz0 hz1 hz2
  have HO1 : Hid ((w.alloc (.cells (ocells rate interp sep amp bits dith).toArray 49)).rangeAt w.heap.size 0 (ocells rate interp sep amp bits dith)) := hid (by
    have := range_made w (ocells rate interp sep amp bits dith).toArray 49
    simpa using this)
  have HB1 := hid (Below.grow (Below.refl w.heap.size w) (.cells (ocells rate interp sep amp bits dith).toArray 49))
  have hs1' : (w.alloc (.cells (ocells rate interp sep amp bits dith).toArray 49)).heap.size = w.heap.size + 1 := by simp
  go_enter Try.func57, Try.ntmps57
  go_wp2
  generalize (w.alloc (.cells (ocells rate interp sep amp bits dith).toArray 49)) = w1 at *
  go_loopg [2, 8, 17] xs.length (fun g sd v i wr => ∃ k : Nat, k ≤ xs.length ∧ g = xs.length - k ∧ i = .int .i64 k ∧ sd = .int .i64 (finTo sep amp bits dith xs s k).2 ∧ Hid (Below (w.heap.size + 1) w1 wr) ∧
    Hid (wr.ownsRow (w.heap.size + 1) 45 2 v k (cellsOf (finTo sep amp bits dith xs s k).1)))
  case atStart => exact ⟨0, Nat.zero_le _, rfl, rfl, rfl, hid (Below.refl _ _), hid (World.ownsRow_nil _ _ _ _)⟩
  case round =>
    obtain ⟨k, hk, rfl, rfl, rfl, HB, HW⟩ := hrel
    have HBW : Hid (Below w.heap.size w wr) := hid (HB1.out.trans (HB.out.mono (by omega)))
    by_cases hlt : k < xs.length
    · obtain ⟨b, off, x, y, rfl, hxk, hc1, hc2⟩ := (HX.out.below HBW.out) k hlt
      obtain ⟨⟨hx1, hx2⟩, hy1, hy2⟩ := fok_at HALL.out hxk
      have hgd : xs.getD k (0, 0) = (x, y) := by rw [List.getD, hxk]; rfl
      have HNEXT : Hid (finTo sep amp bits dith xs s (k + 1) = ((finTo sep amp bits dith xs s k).1 ++ [(stp sep amp bits dith (x, y) (finTo sep amp bits dith xs s k).2).1], (stp sep amp bits dith (x, y) (finTo sep amp bits dith xs s k).2).2)) := hid (by rw [finTo, hgd])
      obtain ⟨hsd0, hsd1⟩ := HSEED.out k
      have HLEN := hid (finTo_len sep amp bits dith xs s k)
      clear hxk hgd
      generalize finTo sep amp bits dith xs s k = st at *
      obtain ⟨fs, sk⟩ := st
      simp only at hsd0 hsd1 HNEXT HLEN HW ⊢
      have hk0 : (0 : Int) ≤ (k : Int) := Int.natCast_nonneg _
      have hk1 : (k : Int) < (xs.length : Int) := by omega
      have hk4 : k < 200000 := by have := HN.out; omega
      have HRW : Hid (wr.rangeAt b (off + k * 2) [.int .i64 x, .int .i64 y]) := hid (by
        intro j v hj
        match j, hj with
        | 0, hj => simp at hj; subst hj; exact hc1
        | 1, hj => simp at hj; subst hj; exact hc2)
      have HS45 : Hid ((Try.prog.info? 45).map (·.size) = some 2) := hid (by kernel_rfl)
      clear hc1 hc2
      go_wp2_with (first | (refine wpList_load_mid rfl 45 _ rfl b (off + k * 2) rfl [.int .i64 x, .int .i64 y] _ HRW.out Try.underlying45 rfl HS45.out ?_) | (refine wpList_store_new rfl 45 _ _ rfl _ #[.int .i64 x, .int .i64 y] rfl rfl HS45.out rfl rfl ?_))
      have hw2 := range_made wr #[.int .i64 x, .int .i64 y] 45
      have hc0 : (wr.alloc (.cells #[.int .i64 x, .int .i64 y] 45)).cell? ⟨wr.heap.size, 0, none⟩ = some (.int .i64 x) := hw2 0 _ rfl
      have hc1 : (wr.alloc (.cells #[.int .i64 x, .int .i64 y] 45)).cell? ⟨wr.heap.size, 1, none⟩ = some (.int .i64 y) := hw2 1 _ rfl
      have HB2 := hid (Below.alloc HB.out (by have := HB.out.size; omega) (.cells #[.int .i64 x, .int .i64 y] 45))
      have HW2 : Hid ((wr.alloc (.cells #[.int .i64 x, .int .i64 y] 45)).ownsRow (w.heap.size + 1) 45 2 u8 k (cellsOf fs)) := hid (HW.out.alloc _)
      have hsz := HB.out.size
      have hsz2 : (wr.alloc (.cells #[.int .i64 x, .int .i64 y] 45)).heap.size = wr.heap.size + 1 := by simp
      have HO2 := hid (range_block HO1.out (HB2.out.block w.heap.size (by omega)))
      have hsep := HO2.out 2 _ rfl
      clear hw2 HB HW HRW HBW
      generalize wr.alloc (Obj.cells #[Value.int IntKind.i64 x, Value.int IntKind.i64 y] 45) = w2 at *
      have hm := mul_bounds (v := x - y) (a := sep) (M := 2199023255552) (by omega) (by omega) hsp0 hsp1 (by omega)
      obtain ⟨q, hq⟩ : ∃ q, q = (x - y) * sep := ⟨_, rfl⟩
      have HNEXT2 : Hid (finTo sep amp bits dith xs s (k + 1) = (fs ++ [((lev amp bits dith ((x + y + q / 256) / 2) sk).1, (lev amp bits dith ((x + y - q / 256) / 2) (lev amp bits dith ((x + y + q / 256) / 2) sk).2).1)], (lev amp bits dith ((x + y - q / 256) / 2) (lev amp bits dith ((x + y + q / 256) / 2) sk).2).2)) := hid (by
        rw [HNEXT.out, hq]; rfl)
      rw [← hq] at hm
      have hwq : IntKind.i64.wrap ((x - y) * sep) = q := by rw [← hq, IntKind.wrap_i64]; omega
      have hwa : IntKind.i64.wrap (x + y) = x + y := by rw [IntKind.wrap_i64]; omega
      have hwb : IntKind.i64.wrap (x - y) = x - y := by rw [IntKind.wrap_i64]; omega
      clear hq HNEXT
      go_quiet ((go_at_call 76; refine Calls.quiet_of_same ((floordiv_any q 256 _ (by omega) (by omega) (by omega)).mono (fun _ _ h => ⟨h.1, h.2.symm⟩))))
      have HB3 := hid (below_drewN HB2.out nq)
      have hsz3 : (w2.drewN nq).heap.size = wr.heap.size + 1 := hsz2
      have HW3 : Hid ((w2.drewN nq).ownsRow (w.heap.size + 1) 45 2 u8 k (cellsOf fs)) := HW2
      have HO3 : Hid ((w2.drewN nq).rangeAt w.heap.size 0 (ocells rate interp sep amp bits dith)) := HO2
      clear hc0 hc1 HB2 HW2 HO2 hsep hwq hwa hwb hsz2
      generalize w2.drewN nq = w3 at *
      have hq1 : -2199023255552 ≤ q / 256 := by omega
      have hq2 : q / 256 ≤ 2199023255552 := by omega
      have hwc : IntKind.i64.wrap (x + y + q / 256) = x + y + q / 256 := by rw [IntKind.wrap_i64]; omega
      have hwd : IntKind.i64.wrap (x + y - q / 256) = x + y - q / 256 := by rw [IntKind.wrap_i64]; omega
      have HRS : Hid (∀ w', Below w3.heap.size w3 w' → OptAt w.heap.size rate interp sep amp bits dith w3 w') := hid (fun w' h => .of HO3.out h)
      obtain ⟨hsd2, hsd3⟩ := lev_seed (amp := amp) (bits := bits) (dith := dith) (v := (x + y + q / 256) / 2) hsd0 hsd1
      go_wp2_with fail
      go_region_held3 (fun w' => w'.cell? ⟨w.heap.size, 0, none⟩ = some (.int .i64 rate) ∧ w'.cell? ⟨w.heap.size, 1, none⟩ = some (.int .i64 interp) ∧ w'.cell? ⟨w.heap.size, 2, none⟩ = some (.int .i64 sep) ∧ w'.cell? ⟨w.heap.size, 3, none⟩ = some (.int .i64 amp) ∧ w'.cell? ⟨w.heap.size, 4, none⟩ = some (.int .i64 bits) ∧ w'.cell? ⟨w.heap.size, 5, none⟩ = some (.bool dith) ∧ Below w3.heap.size w3 w') (first | assumption | (exact HRS.out _ (Below.refl _ _).drew) | (obtain ⟨-, -, -, -, -, -, h2⟩ := (by assumption : _ ∧ _ ∧ _ ∧ _ ∧ _ ∧ _ ∧ Below w3.heap.size w3 _); exact HRS.out _ (Below.step h2 (by assumption))))
        ((first
          | (go_at_call 76; go_loud (refine (floordiv_any (x + y + q / 256) 2 _ (by omega) (by omega) (by omega)).mono ?_; rintro e w' ⟨rfl, rfl⟩))
          | (go_at_call 77; go_loud (refine (end_any rate interp sep amp bits dith ((x + y + q / 256) / 2) sk _ (by omega) (by omega) ha ha2 hsd0 hsd1).mono ?_; rintro e w' ⟨rfl, hb⟩))))
      have hB34 : Below w3.heap.size w3 w' := And.right (And.right (And.right (And.right (And.right (And.right (by assumption))))))
      have HB4 := hid (HB3.out.trans (hB34.mono (by omega)))
      have HW4 := hid (ownsRow_below' HW3.out hB34)
      have HO4 := hid (rangeAt_below HO3.out hB34)
      have hsz4 := hB34.size
      clear hb hB34 HB3 HW3 HO3 HRS
      rename_i hHeld
      clear hHeld
      generalize lev amp bits dith ((x + y + q / 256) / 2) sk = p1 at *
      obtain ⟨l1, s1⟩ := p1
      simp only at hsd2 hsd3 HNEXT2 ⊢
      generalize w' = w4 at *
      have HRS4 : Hid (∀ w', Below w4.heap.size w4 w' → OptAt w.heap.size rate interp sep amp bits dith w4 w') := hid (fun w' h => .of HO4.out h)
      go_wp2_with fail
      go_region_held3 (fun w' => w'.cell? ⟨w.heap.size, 0, none⟩ = some (.int .i64 rate) ∧ w'.cell? ⟨w.heap.size, 1, none⟩ = some (.int .i64 interp) ∧ w'.cell? ⟨w.heap.size, 2, none⟩ = some (.int .i64 sep) ∧ w'.cell? ⟨w.heap.size, 3, none⟩ = some (.int .i64 amp) ∧ w'.cell? ⟨w.heap.size, 4, none⟩ = some (.int .i64 bits) ∧ w'.cell? ⟨w.heap.size, 5, none⟩ = some (.bool dith) ∧ Below w4.heap.size w4 w') (first | assumption | (exact HRS4.out _ (Below.refl _ _).drew) | (obtain ⟨-, -, -, -, -, -, h2⟩ := (by assumption : _ ∧ _ ∧ _ ∧ _ ∧ _ ∧ _ ∧ Below w4.heap.size w4 _); exact HRS4.out _ (Below.step h2 (by assumption))))
        ((first
          | (go_at_call 76; go_loud (refine (floordiv_any (x + y - q / 256) 2 _ (by omega) (by omega) (by omega)).mono ?_; rintro e w' ⟨rfl, rfl⟩))
          | (go_at_call 77; go_loud (refine (end_any rate interp sep amp bits dith ((x + y - q / 256) / 2) s1 _ (by omega) (by omega) ha ha2 hsd2 hsd3).mono ?_; rintro e w' ⟨rfl, hb⟩))))
      have hB45 : Below w4.heap.size w4 w' := And.right (And.right (And.right (And.right (And.right (And.right (by assumption))))))
      have HB5 := hid (HB4.out.trans (hB45.mono (by omega)))
      have HW5 := hid (ownsRow_below' HW4.out hB45)
      have hsz5 := hB45.size
      clear hb hB45 HB4 HW4 HO4 HRS4
      rename_i hHeld
      clear hHeld
      generalize lev amp bits dith ((x + y - q / 256) / 2) s1 = p2 at *
      obtain ⟨r1, s2⟩ := p2
      simp only at HNEXT2 ⊢
      generalize w' = w5 at *
      have HM1 : Hid (k + 1 ≤ maxLen) := hid (by unfold maxLen; omega)
      go_wp2_with (first | (at_builtin; refine wpList_append_own _ rfl _ _ 40 rfl (w.heap.size + 1) 45 i0 _ 2 16 Try.underlying40 HI.out HZ0.out HZ1.out HZ2.out rfl (by decide) u8 k _ rfl (HW5.out.alloc _) _ 1 1 [.int .i64 l1, .int .i64 r1] rfl rfl (news_two _ _ _ _) (by simp [Value.oneCell']) HM1.out (by omega) (by simp; omega) ?_))
      intro v' w6 hown hg _
      have HO6 := hid hown
      have HB6 := hid (Below.grown (Below.alloc HB5.out (by omega) (.cells #[.int .i64 l1, .int .i64 r1] 45)) hg (by simp; omega) (fun q hq => (HW5.out.lt q hq).1)); clear hg hown HW5 HB5
      go_wp2
      go_roundg (xs.length - (k + 1))
      case measure => omega
      case rel =>
        refine ⟨k + 1, by omega, rfl, by go_num, by rw [HNEXT2.out], HB6.out, hid ?_⟩
        rw [HNEXT2.out]
        have hcc : cellsOf (fs ++ [(l1, r1)]) = cellsOf fs ++ [.int .i64 l1, .int .i64 r1] := by simp [cellsOf]
        rw [hcc]
        exact HO6.out
    · obtain rfl : k = xs.length := by omega
      go_wp2
      go_ret2
      obtain ⟨_, A', c', rfl, hfr⟩ := FramesAt.own HW.out
      exact ⟨_, _, rfl, hfr, HBW.out⟩
end Go.Proofs.Ytjefhconahdbiaa
