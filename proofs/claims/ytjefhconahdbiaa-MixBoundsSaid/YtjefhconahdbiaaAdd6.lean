/- The reference's Add of two valid lists of frames of one length returns their sums in a new slice. -/
import Derived.Test.YtjefhconahdbiaaAdd5
import Derived.Deep.RegionHeld3
import Derived.Deep.AppendLies
import Derived.StillTactics
namespace Go.Proofs.Ytjefhconahdbiaa
open Go.RowKit

theorem FramesAt.lt {w : World} {A : Option Addr} {xs : List (Int × Int)} (h : FramesAt w A xs) {b off : Nat} (e : A = some ⟨b, off, none⟩) (h0 : 0 < xs.length) : b < w.heap.size := by
  obtain ⟨b', off', x, y, e', _, h1, _⟩ := h 0 h0
  rw [e] at e'; cases e'
  exact World.block_lt_of_cell? w _ h1
theorem zipWith_snoc (xs ys : List (Int × Int)) (k : Nat) (x y : Int × Int) (hx : xs[k]? = some x) (hy : ys[k]? = some y) :
    List.zipWith addf (xs.take (k + 1)) (ys.take (k + 1)) = List.zipWith addf (xs.take k) (ys.take k) ++ [addf x y] := by
  have h1 := (List.getElem?_eq_some_iff.1 hx).1
  have h2 := (List.getElem?_eq_some_iff.1 hy).1
  rw [List.take_add_one, List.take_add_one, hx, hy, Option.toList_some, Option.toList_some, List.zipWith_append (by simp; omega)]
  rfl

set_option maxHeartbeats 1000000 in
set_option maxRecDepth 100000 in
theorem refadd_walk (A B : Option Addr) (xs ys : List (Int × Int)) (c d : Nat) (w : World) (hx : FramesAt w A xs) (hy : FramesAt w B ys)
    (h1 : allOK xs = true) (h2 : allOK ys = true) (h3 : xs.length = ys.length) :
    Calls Try.prog 24 #[.slice A xs.length c, .slice B ys.length d] w (Added xs ys w) := by
  have hxl : xs.length ≤ 200000 := by simp [allOK] at h1; exact h1.1
  have HXL := hid hxl
  have H3 := hid h3
  have HX := hid hx; have HY := hid hy; clear hx hy h3
  have H1 := hid h1; have H2 := hid h2; clear h1 h2
  have HYB := hid (fun (b off : Nat) (h : B = some ⟨b, off, none⟩) (h0 : 0 < ys.length) => HY.out.lt h h0)
  have HXB := hid (fun (b off : Nat) (h : A = some ⟨b, off, none⟩) (h0 : 0 < xs.length) => HX.out.lt h h0)
  obtain ⟨i0, hi, hz0, hz1, hz2⟩ := info_parts info45
  have HI := hid hi; have HZ0 := hid hz0; have HZ1 := hid hz1; have HZ2 := hid hz2; clear hi hz0 hz1 hz2
  go_enter Try.func24, Try.ntmps24
  go_wp2_with fail
  refine (ref_tame A xs c _ HX.out (by have := HXL.out; omega)).mono ?_
  rintro e w1 ⟨rfl, hb1⟩
  rw [H1.out]
  have HB1 := hid hb1; clear hb1
  go_wp2_with fail
  refine (ref_tame B ys d _ (HY.out.below HB1.out) (by have := HXL.out; have := H3.out; omega)).mono ?_
  rintro e w2 ⟨rfl, hb2⟩
  rw [H2.out]
  have HB2 := hid (Below.step HB1.out hb2); clear hb2
  have heq : ((xs.length : Int) != (ys.length : Int)) = false := by rw [H3.out]; simp
  go_wp2
  clear heq
  go_loopw [6, 7, 23] (fun v _ i wr => ∃ k : Nat, k ≤ xs.length ∧ i = .int .i64 k ∧ Hid (wr.ownsRow w.heap.size 45 2 v k (cellsOf (List.zipWith addf (xs.take k) (ys.take k)))) ∧ Hid (Below w.heap.size w wr)) (fun _ _ i _ => xs.length - (intOf i).toNat)
  case atStart => exact ⟨0, Nat.zero_le _, rfl, by simp [cellsOf, Hid]; exact World.ownsRow_nil _ _ _ _, HB2.out⟩
  case round =>
    obtain ⟨k, hk, rfl, HW, HB⟩ := hrel
    by_cases hlt : k < xs.length
    · obtain ⟨b, off, x2, y2, rfl, hyk, hc1, hc2⟩ := (HY.out.below HB.out) k (by have := H3.out; omega)
      obtain ⟨b', off', x1, y1, rfl, hxk, hd1, hd2⟩ := (HX.out.below HB.out) k hlt
      have hlt' : k < ys.length := by have := H3.out; omega
      have HXK := hid hxk; have HYK := hid hyk; clear hxk hyk
      have lb := World.block_lt_of_cell? wr _ hc1
      have lb' := World.block_lt_of_cell? wr _ hd1
      have hyb : ys.length ≤ 200000 := by have := HXL.out; have := H3.out; omega
      have ag : u6.ownBlock ≠ some b := fun e => by have := (HW.out.lt _ e).1; have := HYB.out _ _ rfl (by omega); omega
      have ag' : u6.ownBlock ≠ some b' := fun e => by have := (HW.out.lt _ e).1; have := HXB.out _ _ rfl (by omega); omega
      have hwr := HB.out.size
      have HM1 : Hid (k + 1 ≤ maxLen) := hid (by unfold maxLen; omega)
      have HM2 : Hid ((k + 1) * 16 ≤ 140737488355328) := hid (by omega)
      have hk0 : (0 : Int) ≤ (k : Int) := Int.natCast_nonneg _
      have hk1 : (k : Int) < (xs.length : Int) := by omega
      have hk2 : (k : Int) < (ys.length : Int) := by omega
      go_wp2
      go_region_held3 (fun w' => w'.cell? ⟨b, off + k * 2, none⟩ = some (.int .i64 x2) ∧ w'.cell? ⟨b, off + k * 2 + 1, none⟩ = some (.int .i64 y2) ∧ w'.cell? ⟨b', off' + k * 2, none⟩ = some (.int .i64 x1) ∧ w'.cell? ⟨b', off' + k * 2 + 1, none⟩ = some (.int .i64 y1))
        (first
          | go_keep
          | (go_split_ands
             refine ⟨?_, ?_, ?_, ?_⟩
             · (rw [hgrow.cell_far _ (by simp; omega) (Ne.symm ag)]; assumption)
             · (rw [hgrow.cell_far _ (by simp; omega) (Ne.symm ag)]; assumption)
             · (rw [hgrow.cell_far _ (by simp; omega) (Ne.symm ag')]; assumption)
             · (rw [hgrow.cell_far _ (by simp; omega) (Ne.symm ag')]; assumption)))
        ((refine step_append_lies _ (by rfl) _ _ _ (by rfl) w.heap.size 45 i0 _ 2 16 Try.underlying40 HI.out HZ0.out HZ1.out HZ2.out rfl (by omega) u6 _ _ (by rfl) ((HW.out.alloc _).drew)
            ⟨wr.heap.size, 0, none⟩ 1 1 [.int .i64 (IntKind.i64.wrap (x1 + x2)), .int .i64 (IntKind.i64.wrap (y1 + y2))] (by rfl) (by rfl) (World.news_of_block (cs := #[.int .i64 (IntKind.i64.wrap (x1 + x2)), .int .i64 (IntKind.i64.wrap (y1 + y2))]) (t := 45) (fr := (0, 0)) (heap_alloc_new wr _)) (by simp [Value.oneCell'])
            (by omega) HM1.out HM2.out (by simp; omega) (wr.heap.size + 1) (by simp) ?_; intro gg cap w1 hown1 hgrow hat hlt))
      have HO1 := hid hown1
      have HB1' := hid (Below.grown (Below.grow HB.out (.cells #[.int .i64 (IntKind.i64.wrap (x1 + x2)), .int .i64 (IntKind.i64.wrap (y1 + y2))] 45)).drew hgrow (by simp; omega) (fun q hq => (HW.out.lt q hq).1))
      clear hown1 hgrow hat hlt HB HW
      go_wp2
      go_roundw
      case rel =>
        refine ⟨k + 1, by omega, by go_num, ?_, HB1'.out⟩
        have hh := HO1.out
        rw [zipWith_snoc xs ys k _ _ HXK.out HYK.out]
        have hc : cellsOf (List.zipWith addf (List.take k xs) (List.take k ys) ++ [addf (x1, y1) (x2, y2)]) = cellsOf (List.zipWith addf (List.take k xs) (List.take k ys)) ++ [.int .i64 (IntKind.i64.wrap (x1 + x2)), .int .i64 (IntKind.i64.wrap (y1 + y2))] := by
          rw [IntWalk.i64_left, IntWalk.i64_left]; simp [cellsOf, addf]
        rw [hc]
        exact hh
      case measure => simp [intOf]; omega
    · obtain rfl : k = xs.length := by omega
      go_wp2
      go_ret2
      have hs : addS xs ys = (List.zipWith addf xs ys, 0) := by unfold addS; rw [H1.out, H2.out, if_neg (by simp), if_pos H3.out]
      unfold Added
      rw [hs]
      have hW := HW.out
      have hl : (List.zipWith addf xs ys).length = xs.length := by simp [H3.out]
      have ht : List.take xs.length ys = ys := by rw [H3.out]; exact List.take_length
      rw [List.take_length, ht] at hW
      exact ⟨_, rfl, by rw [hl]; exact hW, HB.out⟩
end Go.Proofs.Ytjefhconahdbiaa
