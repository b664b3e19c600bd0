/- mix.Add of two valid lists of frames of one length returns their sums in a new slice. -/
import Derived.Test.YtjefhconahdbiaaAdd4
import Derived.BigRegion
namespace Go.Proofs.Ytjefhconahdbiaa
open Go.RowKit

def addf (a b : Int × Int) : Int × Int := (wrap64 (a.1 + b.1), wrap64 (a.2 + b.2))
def addS (xs ys : List (Int × Int)) : List (Int × Int) × Int :=
  if (allOK xs && allOK ys) = false then ([], 5) else if xs.length = ys.length then (List.zipWith addf xs ys, 0) else ([], 4)
def Added (xs ys : List (Int × Int)) (w : World) (e : Ending) (w' : World) : Prop :=
  ∃ v, e = .returned (.tuple #[v, .int .i64 (addS xs ys).2]) ∧ w'.ownsRow w.heap.size 45 2 v (addS xs ys).1.length (cellsOf (addS xs ys).1) ∧ Below w.heap.size w w'

/-- Frames of which the first k are added. -/
def upTo (xs ys : List (Int × Int)) (k : Nat) : List (Int × Int) := List.zipWith addf (xs.take k) (ys.take k) ++ xs.drop k

theorem upTo_zero (xs ys) : upTo xs ys 0 = xs := by simp [upTo]
theorem upTo_all (xs ys) (h : xs.length = ys.length) : upTo xs ys xs.length = List.zipWith addf xs ys := by
  unfold upTo; rw [List.take_length, List.drop_length, List.append_nil, h, List.take_length]
theorem upTo_len (xs ys) (k : Nat) (hk : k ≤ xs.length) (h : xs.length = ys.length) : (upTo xs ys k).length = xs.length := by
  simp [upTo]; omega
theorem upTo_at (xs ys) (k : Nat) (x : Int × Int) (hx : xs[k]? = some x) (h : xs.length = ys.length) : (upTo xs ys k)[k]? = some x := by
  have hk := (List.getElem?_eq_some_iff.1 hx).1
  unfold upTo
  rw [List.getElem?_append_right (by simp; omega)]
  simp [show min k ys.length = k by omega, show min k xs.length = k by omega, hx]
theorem upTo_succ (xs ys) (k : Nat) (x y : Int × Int) (hx : xs[k]? = some x) (hy : ys[k]? = some y) (h : xs.length = ys.length) :
    upTo xs ys (k + 1) = (upTo xs ys k).set k (addf x y) := by
  have hk := (List.getElem?_eq_some_iff.1 hx).1
  unfold upTo
  rw [List.take_add_one, List.take_add_one, hx, hy]
  simp only [Option.toList_some]
  rw [List.zipWith_append (by simp; omega), List.set_append_right _ _ (by simp; omega)]
  have hd : xs.drop k = x :: xs.drop (k + 1) := by
    rw [List.drop_eq_getElem_cons hk]; congr 1
    exact (List.getElem?_eq_some_iff.1 hx).2
  rw [hd]
  simp [show k - min k ys.length = 0 by omega, show min k xs.length = k by omega]
theorem cells_set (xs : List (Int × Int)) (k : Nat) (x : Int × Int) : cellsOf (xs.set k x) = ((cellsOf xs).set (k * 2) (.int .i64 x.1)).set (k * 2 + 1) (.int .i64 x.2) := by
  induction xs generalizing k with
  | nil => simp [cellsOf]
  | cons z xs ih =>
    cases k with
    | zero => simp [cellsOf]
    | succ k =>
      have := ih k
      rw [show (k + 1) * 2 = k * 2 + 1 + 1 by omega]
      simpa [cellsOf] using this

theorem own_form {w : World} {base : Nat} {e : TypeId} {sz n : Nat} {v : Value} {xs : List Value} (h : w.ownsRow base e sz v n xs) (hn : 0 < n) : ∃ g cap, v = .slice (some ⟨g, 0, none⟩) n cap ∧ base ≤ g ∧ g < w.heap.size := by
  rcases h.2 with ⟨_, h'⟩ | ⟨g, cap, cur, h1, h2, h3, _⟩
  · omega
  · exact ⟨g, cap, h1, h2, by rw [Array.getElem?_eq_some_iff] at h3; exact h3.1⟩
theorem own_base {w : World} {base base' : Nat} {e : TypeId} {sz n : Nat} {v : Value} {xs : List Value} (h : w.ownsRow base e sz v n xs) (hb : base' ≤ base) : w.ownsRow base' e sz v n xs := by
  refine ⟨h.1, ?_⟩
  rcases h.2 with h' | ⟨g, cap, cur, h1, h2, h3⟩
  · exact Or.inl h'
  · exact Or.inr ⟨g, cap, cur, h1, by omega, h3⟩
theorem drew_below {B : Nat} {a w : World} (h : Below B a w) : Below B a w.drew := h.drew

set_option maxHeartbeats 1000000 in
set_option maxRecDepth 100000 in
theorem add_walk (A B : Option Addr) (xs ys : List (Int × Int)) (c d : Nat) (w : World) (hx : FramesAt w A xs) (hy : FramesAt w B ys)
    (hA : A = none → xs.length = 0 ∧ c = 0) (h1 : allOK xs = true) (h2 : allOK ys = true) (h3 : xs.length = ys.length) :
    Calls Try.prog 23 #[.slice A xs.length c, .slice B ys.length d] w (Added xs ys w) := by
  have hxl : xs.length ≤ 200000 := by simp [allOK] at h1; exact h1.1
  have HXL := hid hxl
  have H3 := hid h3
  have HX := hid hx; have HY := hid hy; have HA := hid hA; clear hx hy hA h3
  have HC : ∀ w1, Below w.heap.size w w1 → Calls Try.prog 48 #[.slice A xs.length c] w1 (Cloned xs w1) := by
    intro w1 hb
    cases A with
    | none =>
      obtain ⟨e1, rfl⟩ := HA.out rfl
      obtain rfl : xs = [] := List.length_eq_zero_iff.1 e1
      exact clone_nil w1
    | some a =>
      exact clone_some a xs c w1 (HX.out.below hb) HXL.out
  have HC' := hid HC; clear HC
  have H1 := hid h1; have H2 := hid h2; clear h1 h2 hxl
  go_enter Try.func23, Try.ntmps23
  go_wp2_with fail
  refine (framesOK A xs c _ HX.out (by have := HXL.out; omega)).mono ?_
  rintro e w1 ⟨rfl, hb1⟩
  rw [H1.out]
  have HB1 := hid hb1; clear hb1
  go_wp2_with fail
  refine (framesOK B ys d _ (HY.out.below HB1.out) (by have := HXL.out; have := H3.out; omega)).mono ?_
  rintro e w2 ⟨rfl, hb2⟩
  rw [H2.out]
  have HB2 := hid (Below.step HB1.out hb2); clear hb2
  have heq : ((xs.length : Int) != (ys.length : Int)) = false := by rw [H3.out]; simp
  go_wp2_with fail
  refine (HC'.out _ HB2.out).mono ?_
  rintro e w3 ⟨v, rfl, hown, hb3⟩
  have HO := hid hown; clear hown
  have HB3 := hid (Below.step HB2.out hb3); clear hb3
  clear heq
  go_wp2
  go_loopw [7, 8, 26] (fun _ _ i wr => ∃ k : Nat, k ≤ ys.length ∧ i = .int .i64 k ∧ Hid (wr.ownsRow w2.heap.size 45 2 v xs.length (cellsOf (upTo xs ys k))) ∧ Hid (Below w.heap.size w wr)) (fun _ _ i _ => ys.length - (intOf i).toNat)
  case atStart => exact ⟨0, Nat.zero_le _, rfl, by rw [upTo_zero]; exact HO.out, HB3.out⟩
  case round =>
    obtain ⟨k, hk, rfl, HW, HB⟩ := hrel
    clear HO HB3 HC'
    by_cases hlt : k < ys.length
    · obtain ⟨b, off, x2, y2, rfl, hyk, hc1, hc2⟩ := (HY.out.below HB.out) k hlt
      have hlx : k < xs.length := by have := H3.out; omega
      obtain ⟨x1, y1, hxk⟩ : ∃ x1 y1, xs[k]? = some (x1, y1) := by
        obtain ⟨_, _, x1, y1, _, hxk, _, _⟩ := HX.out k hlx; exact ⟨x1, y1, hxk⟩
      obtain ⟨g, cap, rfl, hg1, hg2⟩ := own_form HW.out (by omega)
      have hu := cells_at _ _ _ _ (upTo_at xs ys k _ hxk H3.out)
      have hd1 : wr.cell? ⟨g, k * 2, none⟩ = some (.int .i64 x1) := (HW.out.cellAt (k * 2) (by omega)).trans hu.1
      have hd2 : wr.cell? ⟨g, k * 2 + 1, none⟩ = some (.int .i64 y1) := (HW.out.cellAt (k * 2 + 1) (by omega)).trans hu.2
      have hz1 := HW.out.frozenAt (k * 2)
      have hz2 := HW.out.frozenAt (k * 2 + 1)
      have HXK := hid hxk; have HYK := hid hyk; clear hxk hyk hu
      have hgw : g ≠ wr.heap.size := by omega
      have hyb : ys.length ≤ 200000 := by have := HXL.out; have := H3.out; omega
      go_wp2
      go_region
      go_wp2
      go_region
      go_wp2
      go_roundw
      case rel =>
        refine ⟨k + 1, by omega, by go_num, ?_, ?_⟩
        · rw [upTo_succ xs ys k _ _ HXK.out HYK.out H3.out, cells_set]
          exact (((HW.out.stored (k * 2) _).1.stored (k * 2 + 1) _).1.alloc _).drew.drew
        · exact (Below.grow ((HB.out.setCell (by have := HB2.out.size; simp; omega) _).setCell (by have := HB2.out.size; simp; omega) _) _).drew.drew
      case measure => simp [intOf]; omega
    · obtain rfl : k = ys.length := by omega
      go_wp2
      go_ret2
      have hs : addS xs ys = (List.zipWith addf xs ys, 0) := by unfold addS; rw [H1.out, H2.out, if_neg (by simp), if_pos H3.out]
      unfold Added
      rw [hs]
      have hW := HW.out
      rw [← H3.out, upTo_all xs ys H3.out] at hW
      have hl : (List.zipWith addf xs ys).length = xs.length := by simp [H3.out]
      refine ⟨v, rfl, ?_, HB.out⟩
      rw [hl]
      exact own_base hW HB2.out.size
end Go.Proofs.Ytjefhconahdbiaa
