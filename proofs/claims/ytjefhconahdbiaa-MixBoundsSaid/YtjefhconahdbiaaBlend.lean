/- blend.Finish finishes frames one after another. -/
import Derived.Test.YtjefhconahdbiaaLevel2
namespace Go.Proofs.Ytjefhconahdbiaa
open Go.RowKit

def stp (sep amp bits : Int) (dith : Bool) (f : Int × Int) (s : Int) : (Int × Int) × Int :=
  (((lev amp bits dith ((f.1 + f.2 + (f.1 - f.2) * sep / 256) / 2) s).1, (lev amp bits dith ((f.1 + f.2 - (f.1 - f.2) * sep / 256) / 2) (lev amp bits dith ((f.1 + f.2 + (f.1 - f.2) * sep / 256) / 2) s).2).1),
    (lev amp bits dith ((f.1 + f.2 - (f.1 - f.2) * sep / 256) / 2) (lev amp bits dith ((f.1 + f.2 + (f.1 - f.2) * sep / 256) / 2) s).2).2)
def finTo (sep amp bits : Int) (dith : Bool) (xs : List (Int × Int)) (s : Int) : Nat → List (Int × Int) × Int
  | 0 => ([], s)
  | k + 1 => ((finTo sep amp bits dith xs s k).1 ++ [(stp sep amp bits dith (xs.getD k (0, 0)) (finTo sep amp bits dith xs s k).2).1], (stp sep amp bits dith (xs.getD k (0, 0)) (finTo sep amp bits dith xs s k).2).2)
theorem finTo_len (sep amp bits : Int) (dith : Bool) (xs : List (Int × Int)) (s : Int) (k : Nat) : (finTo sep amp bits dith xs s k).1.length = k := by
  induction k with
  | zero => rfl
  | succ k ih => simp [finTo, ih]
theorem lev_seed {amp bits v s : Int} {dith : Bool} (h0 : 0 ≤ s) (h1 : s ≤ 2147483647) : 0 ≤ (lev amp bits dith v s).2 ∧ (lev amp bits dith v s).2 ≤ 2147483647 := by
  unfold lev
  split
  · exact ⟨h0, h1⟩
  · split
    · exact ⟨nxt_lo s, nxt_hi s⟩
    · exact ⟨h0, h1⟩
theorem finTo_seed (sep amp bits : Int) (dith : Bool) (xs : List (Int × Int)) (s : Int) (h0 : 0 ≤ s) (h1 : s ≤ 2147483647) (k : Nat) : 0 ≤ (finTo sep amp bits dith xs s k).2 ∧ (finTo sep amp bits dith xs s k).2 ≤ 2147483647 := by
  induction k with
  | zero => exact ⟨h0, h1⟩
  | succ k ih =>
    unfold finTo stp
    have h2 := lev_seed (amp := amp) (bits := bits) (dith := dith) (v := ((xs.getD k (0, 0)).1 + (xs.getD k (0, 0)).2 + ((xs.getD k (0, 0)).1 - (xs.getD k (0, 0)).2) * sep / 256) / 2) ih.1 ih.2
    exact lev_seed h2.1 h2.2
theorem rng_iff {n : Int} (h : rng n = true) : -1099511627776 ≤ n ∧ n ≤ 1099511627776 := by unfold rng at h; exact (inr_iff _ _ _).1 h
theorem fok_at {xs : List (Int × Int)} {k : Nat} {x y : Int} (h : xs.all fok = true) (hk : xs[k]? = some (x, y)) : (-1099511627776 ≤ x ∧ x ≤ 1099511627776) ∧ -1099511627776 ≤ y ∧ y ≤ 1099511627776 := by
  rw [List.all_eq_true] at h
  have := h _ (List.mem_of_getElem? hk)
  unfold fok at this
  rw [Bool.and_eq_true] at this
  exact ⟨rng_iff this.1, rng_iff this.2⟩
theorem frames_of_range {w : World} {g : Nat} {fs : List (Int × Int)} (h : w.rangeAt g 0 (cellsOf fs)) : FramesAt w (some ⟨g, 0, none⟩) fs := by
  intro i hi
  obtain ⟨x, y, hxi⟩ : ∃ x y, fs[i]? = some (x, y) := ⟨_, _, List.getElem?_eq_getElem hi⟩
  obtain ⟨g1, g2⟩ := cells_at fs i x y hxi
  exact ⟨g, 0, x, y, rfl, hxi, h _ _ g1, by have := h _ _ g2; rwa [← Nat.add_assoc] at this⟩
/-- One cell more. -/
theorem range_snoc {w : World} {g n : Nat} {cs : List Value} {v : Value} (hl : cs.length = n) (h : w.rangeAt g 0 cs) (ht : (w.cell? ⟨g, n, none⟩).isSome = true) :
    (w.setCell ⟨g, n, none⟩ v).rangeAt g 0 (cs ++ [v]) := by
  intro j u hj
  rw [Nat.zero_add]
  rcases Nat.lt_or_ge j n with hlt | hge
  · rw [World.cell?_setCell_other _ _ _ _ (fun e => by have := congrArg Addr.off e; simp at this; omega)]
    rw [List.getElem?_append_left (by omega)] at hj
    have := h j u hj
    rwa [Nat.zero_add] at this
  · rw [List.getElem?_append_right (by omega), hl] at hj
    have hj0 : j - n = 0 := by
      rcases Nat.lt_or_ge (j - n) 1 with h2 | h2
      · omega
      · rw [List.getElem?_eq_none (by simpa using h2)] at hj; cases hj
    rw [hj0] at hj
    simp at hj
    subst hj
    have e : j = n := by omega
    subst e
    exact World.cell?_setCell_same' _ _ _ ht
theorem there_setCell {w : World} {b o n : Nat} (h : w.there b o n) (a : Addr) (v : Value) : (w.setCell a v).there b o n := by
  intro j hj
  obtain ⟨h1, h2⟩ := h j hj
  refine ⟨?_, by rw [World.frozen?_setCell]; exact h2⟩
  by_cases e : a = ⟨b, o + j, none⟩
  · subst e; rw [World.cell?_setCell_same' _ _ _ h1]; rfl
  · rw [World.cell?_setCell_other _ _ _ _ e]; exact h1
theorem there_block {w w' : World} {b o n : Nat} (h : w.there b o n) (hb : w'.heap[b]? = w.heap[b]?) : w'.there b o n := by
  intro j hj
  obtain ⟨h1, h2⟩ := h j hj
  exact ⟨by rw [World.cell?_of_block hb]; exact h1, by rw [World.frozen?_of_block hb]; exact h2⟩
theorem range_block {w w' : World} {b o : Nat} {cs : List Value} (h : w.rangeAt b o cs) (hb : w'.heap[b]? = w.heap[b]?) : w'.rangeAt b o cs :=
  fun j v hj => by rw [World.cell?_of_block hb]; exact h j v hj
def Blended (sep amp bits : Int) (dith : Bool) (xs : List (Int × Int)) (s : Int) (w : World) (e : Ending) (w' : World) : Prop :=
  ∃ A c, e = .returned (.tuple #[.slice A xs.length c, .int .i64 (finTo sep amp bits dith xs s xs.length).2]) ∧ FramesAt w' A (finTo sep amp bits dith xs s xs.length).1 ∧ Below w.heap.size w w'

set_option maxHeartbeats 4000000 in
set_option maxRecDepth 100000 in
theorem blend_any (A : Option Addr) (xs : List (Int × Int)) (c : Nat) (rate interp sep amp bits : Int) (dith : Bool) (s : Int) (bo oo : Nat) (w : World) (hx : FramesAt w A xs)
    (ho : w.rangeAt bo oo (ocells rate interp sep amp bits dith)) (hall : xs.all fok = true) (hn : xs.length ≤ 200000) (hsp0 : 0 ≤ sep) (hsp1 : sep ≤ 256) (ha : 0 ≤ amp) (ha2 : amp ≤ 256) (hs0 : 0 ≤ s) (hs1 : s ≤ 2147483647) :
    Calls Try.prog 54 #[.slice A xs.length c, .pointer (some ⟨bo, oo, none⟩), .int .i64 s] w (Blended sep amp bits dith xs s w) := by
  have HX := hid hx; have HO := hid ho; have HALL := hid hall; have HN := hid hn
  have HSEED := hid (finTo_seed sep amp bits dith xs s hs0 hs1)
  have hbo : bo < w.heap.size := World.block_lt_of_cell? w _ (ho 0 _ rfl)
  clear hx ho hall hn hs0 hs1
  obtain ⟨i0, hi, hz0, hz1, hz2⟩ := info_parts info45
  have HI := hid hi; have HZ0 := hid hz0; have HZ1 := hid hz1; have HZ2 := hid hz2; clear hi hz0 hz1 hz2
  go_enter Try.func54, Try.ntmps54
  go_wp2_with (first | (at_make; refine wpList_make_rows rfl _ _ 40 rfl 45 i0 _ 2 Try.underlying40 HI.out HZ0.out HZ1.out .i64 .i64 xs.length rfl rfl (by rw [HZ2.out]; have := HN.out; omega) (by have := HN.out; omega) ?_))
  go_loopg [18] xs.length (fun g i wr => ∃ k : Nat, k ≤ xs.length ∧ g = xs.length - k ∧ i = .int .i64 k ∧ Hid (Below w.heap.size w wr) ∧ Hid (w.heap.size + 2 ≤ wr.heap.size) ∧
    Hid (wr.cell? ⟨w.heap.size, 0, none⟩ = some (.int .i64 (finTo sep amp bits dith xs s k).2)) ∧ Hid (wr.frozen? ⟨w.heap.size, 0, none⟩ = false) ∧
    Hid (wr.there (w.heap.size + 1) 0 (xs.length * 2)) ∧ Hid (wr.rangeAt (w.heap.size + 1) 0 (cellsOf (finTo sep amp bits dith xs s k).1)))
  case atStart =>
    refine ⟨0, Nat.zero_le _, rfl, rfl, hid ?_, hid (by simp), hid ?_, hid ?_, hid ?_, hid ?_⟩
    · exact Below.grow (Below.grow (Below.refl _ _) _) _
    · have h1 := range_made w #[.int .i64 s] 3
      have h2 := rangeAt_below h1 (Below.grow (Below.refl _ _) (.cells (madeCells #[.int .i64 0, .int .i64 0] (xs.length * 2)) 45))
      exact h2 0 _ rfl
    · have h1 := heap_alloc_new w (.cells #[.int .i64 s] 3)
      unfold World.frozen?
      have h2 : ((w.alloc (.cells #[.int .i64 s] 3)).alloc (.cells (madeCells #[.int .i64 0, .int .i64 0] (xs.length * 2)) 45)).heap[w.heap.size]? = some (.cells #[.int .i64 s] 3 (0, 0)) := by
        rw [Lib.alloc_old _ _ _ (by simp)]; exact h1
      simp only []
      rw [h2]
      simp
    · have := there_made (w.alloc (.cells #[.int .i64 s] 3)) #[.int .i64 0, .int .i64 0] (xs.length * 2) 45 0 (xs.length * 2) (by omega)
      simpa using this
    · intro j v hj; simp [finTo, cellsOf] at hj
  case round =>
    obtain ⟨k, hk, rfl, rfl, HB, HSZ, HC, HF, HT, HR⟩ := hrel
    by_cases hlt : k < xs.length
    · obtain ⟨b, off, x, y, rfl, hxk, hc1, hc2⟩ := (HX.out.below HB.out) k hlt
      obtain ⟨⟨hx1, hx2⟩, hy1, hy2⟩ := fok_at HALL.out hxk
      have hgd : xs.getD k (0, 0) = (x, y) := by rw [List.getD, hxk]; rfl
      have HNEXT : Hid (finTo sep amp bits dith xs s (k + 1) = ((finTo sep amp bits dith xs s k).1 ++ [(stp sep amp bits dith (x, y) (finTo sep amp bits dith xs s k).2).1], (stp sep amp bits dith (x, y) (finTo sep amp bits dith xs s k).2).2)) := hid (by rw [finTo, hgd])
      obtain ⟨hsd0, hsd1⟩ := HSEED.out k
      have HLEN := hid (finTo_len sep amp bits dith xs s k)
      clear hxk hgd
      generalize finTo sep amp bits dith xs s k = st at *
      obtain ⟨fs, sk⟩ := st
      simp only at hsd0 hsd1 HNEXT HC HLEN HR
      have hk0 : (0 : Int) ≤ (k : Int) := Int.natCast_nonneg _
      have hk1 : (k : Int) < (xs.length : Int) := by omega
      have hk4 : k < 200000 := by have := HN.out; omega
      have HRW : Hid (wr.rangeAt b (off + k * 2) [.int .i64 x, .int .i64 y]) := hid (by
        intro j v hj
        match j, hj with
        | 0, hj => simp at hj; subst hj; exact hc1
        | 1, hj => simp at hj; subst hj; exact hc2)
      have HS45 : Hid ((Try.prog.info? 45).map (·.size) = some 2) := hid (by kernel_rfl)
      clear hc1 hc2
      go_wp2_with (first | (refine wpList_load_mid rfl 45 _ rfl b (off + k * 2) rfl [.int .i64 x, .int .i64 y] _ HRW.out Try.underlying45 rfl HS45.out ?_) | (refine wpList_store_new rfl 45 _ _ rfl _ #[.int .i64 x, .int .i64 y] rfl rfl HS45.out rfl rfl ?_))
      have hw2 := range_made wr #[.int .i64 x, .int .i64 y] 45
      have hc0 : (wr.alloc (.cells #[.int .i64 x, .int .i64 y] 45)).cell? ⟨wr.heap.size, 0, none⟩ = some (.int .i64 x) := hw2 0 _ rfl
      have hc1 : (wr.alloc (.cells #[.int .i64 x, .int .i64 y] 45)).cell? ⟨wr.heap.size, 1, none⟩ = some (.int .i64 y) := hw2 1 _ rfl
      have HB2 := hid (Below.grow HB.out (.cells #[.int .i64 x, .int .i64 y] 45))
      have hbl : Below wr.heap.size wr (wr.alloc (.cells #[.int .i64 x, .int .i64 y] 45)) := Below.grow (Below.refl _ _) _
      have hsz := HSZ.out
      have HSZ2 : Hid (w.heap.size + 2 ≤ (wr.alloc (.cells #[.int .i64 x, .int .i64 y] 45)).heap.size) := hid (by simp; omega)
      have HC2 := hid ((hbl.cell (p := ⟨w.heap.size, 0, none⟩) (by show w.heap.size < _; omega)).trans HC.out)
      have HF2 := hid ((hbl.frozen (p := ⟨w.heap.size, 0, none⟩) (by show w.heap.size < _; omega)).trans HF.out)
      have HT2 := hid (there_block HT.out (hbl.block (w.heap.size + 1) (by omega)))
      have HR2 := hid (range_block HR.out (hbl.block (w.heap.size + 1) (by omega)))
      have HO2 := hid (range_block HO.out (HB2.out.block bo hbo))
      have hsep := HO2.out 2 _ rfl
      clear hw2 hbl HB HC HF HT HR HRW HSZ hsz
      generalize wr.alloc (Obj.cells #[Value.int IntKind.i64 x, Value.int IntKind.i64 y] 45) = w2 at *
      have hm := mul_bounds (v := x - y) (a := sep) (M := 2199023255552) (by omega) (by omega) hsp0 hsp1 (by omega)
      obtain ⟨q, hq⟩ : ∃ q, q = (x - y) * sep := ⟨_, rfl⟩
      have HNEXT2 : Hid (finTo sep amp bits dith xs s (k + 1) = (fs ++ [((lev amp bits dith ((x + y + q / 256) / 2) sk).1, (lev amp bits dith ((x + y - q / 256) / 2) (lev amp bits dith ((x + y + q / 256) / 2) sk).2).1)], (lev amp bits dith ((x + y - q / 256) / 2) (lev amp bits dith ((x + y + q / 256) / 2) sk).2).2)) := hid (by
        rw [HNEXT.out, hq]; rfl)
      rw [← hq] at hm
      have hwq : IntKind.i64.wrap ((x - y) * sep) = q := by rw [← hq, IntKind.wrap_i64]; omega
      have hwa : IntKind.i64.wrap (x + y) = x + y := by rw [IntKind.wrap_i64]; omega
      have hwb : IntKind.i64.wrap (x - y) = x - y := by rw [IntKind.wrap_i64]; omega
      clear hq HNEXT
      go_quiet (fail)
      have HB3 := hid (below_drewN HB2.out nq)
      have HSZ3 : Hid (w.heap.size + 2 ≤ (w2.drewN nq).heap.size) := HSZ2
      have HC3 : Hid ((w2.drewN nq).cell? ⟨w.heap.size, 0, none⟩ = some (.int .i64 sk)) := HC2
      have HF3 : Hid ((w2.drewN nq).frozen? ⟨w.heap.size, 0, none⟩ = false) := HF2
      have HT3 : Hid ((w2.drewN nq).there (w.heap.size + 1) 0 (xs.length * 2)) := HT2
      have HR3 : Hid ((w2.drewN nq).rangeAt (w.heap.size + 1) 0 (cellsOf fs)) := HR2
      have HO3 : Hid ((w2.drewN nq).rangeAt bo oo (ocells rate interp sep amp bits dith)) := HO2
      clear hc0 hc1 HB2 HSZ2 HC2 HF2 HT2 HR2 HO2 hsep hwq hwa hwb
      generalize w2.drewN nq = w3 at *
      have hq1 : -2199023255552 ≤ q / 256 := by omega
      have hq2 : q / 256 ≤ 2199023255552 := by omega
      have HCL : Hid ((cellsOf fs).length = k * 2) := hid (by rw [cells_len, HLEN.out])
      go_wp2_with fail
      refine (level_any rate interp sep amp bits dith ((x + y + q / 256) / 2) sk bo oo w.heap.size _ HO3.out HC3.out HF3.out (by omega) (by omega) ha ha2 hsd0 hsd1).mono ?_
      rintro e w4 ⟨rfl, hc4, hf4, hg4⟩
      have hsz3 := HSZ3.out
      have hsz4 := hg4.size
      have HB4 := hid (Below.grown HB3.out hg4 (by omega) (fun k hk => by cases hk; exact Nat.le_refl _))
      have HT4 := hid (there_block HT3.out (hg4.block (w.heap.size + 1) (by omega) (by simp)))
      have HR4 := hid (range_block HR3.out (hg4.block (w.heap.size + 1) (by omega) (by simp)))
      have HO4 := hid (range_block HO3.out (hg4.block bo (by omega) (by simp; omega)))
      have HC4 := hid hc4; have HF4 := hid hf4
      obtain ⟨hsd2, hsd3⟩ := lev_seed (amp := amp) (bits := bits) (dith := dith) (v := (x + y + q / 256) / 2) hsd0 hsd1
      clear hc4 hf4 hg4 HB3 HSZ3 HC3 HF3 HT3 HR3 HO3
      generalize lev amp bits dith ((x + y + q / 256) / 2) sk = p1 at *
      obtain ⟨l1, s1⟩ := p1
      simp only at hsd2 hsd3 HC4 HNEXT2
      obtain ⟨hi1, hfz1⟩ := HT4.out (k * 2) (by omega)
      rw [Nat.zero_add] at hi1 hfz1
      obtain ⟨u1, hu1⟩ := Option.isSome_iff_exists.1 hi1
      have HI1 := hid hi1; clear hi1
      go_wp2_with fail
      have hbs : ∀ kk, kk ≠ w.heap.size + 1 → (w4.setCell ⟨w.heap.size + 1, k * 2, none⟩ (.int .i64 l1)).heap[kk]? = w4.heap[kk]? := fun kk h => Below.heap_setCell _ _ _ _ h
      have HB5 : Hid (Below w.heap.size w (w4.setCell ⟨w.heap.size + 1, k * 2, none⟩ (.int .i64 l1))) := hid (HB4.out.setCell (p := ⟨w.heap.size + 1, k * 2, none⟩) (by show w.heap.size ≤ w.heap.size + 1; omega) _)
      have HC5 := hid ((World.cell?_of_block (a := ⟨w.heap.size, 0, none⟩) (hbs w.heap.size (by omega))).trans HC4.out)
      have HF5 := hid ((World.frozen?_of_block (a := ⟨w.heap.size, 0, none⟩) (hbs w.heap.size (by omega))).trans HF4.out)
      have HT5 := hid (there_setCell HT4.out ⟨w.heap.size + 1, k * 2, none⟩ (.int .i64 l1))
      have HR5 := hid (range_snoc (v := .int .i64 l1) HCL.out HR4.out HI1.out)
      have HO5 := hid (range_block HO4.out (hbs bo (by omega)))
      have hsz5 : w4.heap.size = (w4.setCell ⟨w.heap.size + 1, k * 2, none⟩ (.int .i64 l1)).heap.size := by simp [World.setCell]
      clear hbs HB4 HC4 HF4 HT4 HR4 HO4 HI1 hfz1 hu1
      generalize w4.setCell ⟨w.heap.size + 1, k * 2, none⟩ (.int .i64 l1) = w5 at *
      refine (level_any rate interp sep amp bits dith ((x + y - q / 256) / 2) s1 bo oo w.heap.size _ HO5.out HC5.out HF5.out (by omega) (by omega) ha ha2 hsd2 hsd3).mono ?_
      rintro e w6 ⟨rfl, hc6, hf6, hg6⟩
      have hsz6 := hg6.size
      have HB6 := hid (Below.grown HB5.out hg6 (by omega) (fun k hk => by cases hk; exact Nat.le_refl _))
      have HT6 := hid (there_block HT5.out (hg6.block (w.heap.size + 1) (by omega) (by simp)))
      have HR6 := hid (range_block HR5.out (hg6.block (w.heap.size + 1) (by omega) (by simp)))
      have HC6 := hid hc6; have HF6 := hid hf6
      clear hc6 hf6 hg6 HB5 HC5 HF5 HT5 HR5 HO5
      generalize lev amp bits dith ((x + y - q / 256) / 2) s1 = p2 at *
      obtain ⟨r1, s2⟩ := p2
      simp only at HC6 HNEXT2
      obtain ⟨hi1, hfz1⟩ := HT6.out (k * 2 + 1) (by omega)
      rw [Nat.zero_add] at hi1 hfz1
      obtain ⟨u2, hu2⟩ := Option.isSome_iff_exists.1 hi1
      have HI1 := hid hi1; clear hi1
      go_wp2
      have hbs : ∀ kk, kk ≠ w.heap.size + 1 → (w6.setCell ⟨w.heap.size + 1, k * 2 + 1, none⟩ (.int .i64 r1)).heap[kk]? = w6.heap[kk]? := fun kk h => Below.heap_setCell _ _ _ _ h
      have HB7 : Hid (Below w.heap.size w (w6.setCell ⟨w.heap.size + 1, k * 2 + 1, none⟩ (.int .i64 r1))) := hid (HB6.out.setCell (p := ⟨w.heap.size + 1, k * 2 + 1, none⟩) (by show w.heap.size ≤ w.heap.size + 1; omega) _)
      have HC7 := hid ((World.cell?_of_block (a := ⟨w.heap.size, 0, none⟩) (hbs w.heap.size (by omega))).trans HC6.out)
      have HF7 := hid ((World.frozen?_of_block (a := ⟨w.heap.size, 0, none⟩) (hbs w.heap.size (by omega))).trans HF6.out)
      have HT7 := hid (there_setCell HT6.out ⟨w.heap.size + 1, k * 2 + 1, none⟩ (.int .i64 r1))
      have HR7 := hid (range_snoc (v := .int .i64 r1) (n := k * 2 + 1) (by have := HCL.out; simp; omega) HR6.out HI1.out)
      have hsz7 : (w6.setCell ⟨w.heap.size + 1, k * 2 + 1, none⟩ (.int .i64 r1)).heap.size = w6.heap.size := by simp [World.setCell]
      clear hfz1 hu2 hbs
      go_roundg (xs.length - (k + 1))
      case measure => omega
      case rel =>
        refine ⟨k + 1, by omega, rfl, by go_num, HB7.out, hid (by omega), hid (by rw [HNEXT2.out]; exact HC7.out), HF7.out, HT7.out, hid ?_⟩
        rw [HNEXT2.out]
        have hcc : cellsOf (fs ++ [(l1, r1)]) = cellsOf fs ++ [.int .i64 l1] ++ [.int .i64 r1] := by simp [cellsOf]
        rw [hcc]
        exact HR7.out
    · obtain rfl : k = xs.length := by omega
      have hcs := HC.out
      go_wp2
      go_quiet (fail)
      go_wp2
      go_ret2
      exact ⟨_, _, rfl, frames_of_range HR.out, below_drewN HB.out _⟩
end Go.Proofs.Ytjefhconahdbiaa
