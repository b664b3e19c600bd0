/- slices.Concat of two slices of bytes; slices.Grow of nil. -/
import Derived.Test.YtjefhconahdbiaaPackLaw
import Derived.Lib.AppendZeros
import Derived.Laws.AppendOwnNone
namespace Go.Proofs.Ytjefhconahdbiaa
open Go.RowKit

theorem info5b : (Try.prog.info? 5).map (fun i => (i.zero, i.size, i.bytes)) = some (some (.int .u8 0), 1, 1) := by kernel_rfl
/-- What Grow leaves. -/
def Grown (w : World) (e : Ending) (w' : World) : Prop := ∃ v, e = .returned v ∧ w'.ownsRow w.heap.size 5 1 v 0 [] ∧ Below w.heap.size w w'
/-- A row of nothing with room. -/
theorem ownsRow_room {w : World} {base g cap : Nat} {cur : Array Value} (hg : base ≤ g) (h : w.heap[g]? = some (.cells cur 5 (0, 0))) (hc : cap ≤ maxLen) (hs : cur.size = cap) :
    w.ownsRow base 5 1 (.slice (some ⟨g, 0, none⟩) 0 cap) 0 [] :=
  ⟨rfl, Or.inr ⟨g, cap, cur, rfl, hg, h, Nat.zero_le _, hc, by omega, by simp⟩⟩
set_option maxHeartbeats 4000000 in
set_option maxRecDepth 100000 in
theorem grow_nil (n : Nat) (w : World) (hn : 1 ≤ n) (hm : n ≤ 400000) :
    Calls Try.prog 68 #[.slice none 0 0, .int .i64 n] w (Grown w) := by
  obtain ⟨i0, hi, hz0, hz1, hz2⟩ := info_parts info5b
  have happ := Lib.run_append_nil_zeros (P := Try.prog) w 55 3 55 5 i0 (.int .u8 0) .i64 .i64 Try.underlying55 Try.underlying3 hi hz0 n (by omega) (by omega) (by omega) (by rw [hz2]; omega)
  generalize hcap : grownCap w n 0 5 = cap2 at happ
  have hcapge : n ≤ cap2 := by rw [← hcap]; exact grownCap_ge w _ 0 5
  have hcaple : cap2 ≤ maxLen := by rw [← hcap]; exact grownCap_le_maxLen w _ 0 5 (by unfold maxLen; omega)
  generalize hZ : (Builtin.zeroCells (Value.int .u8 0).cells n ++ Builtin.zeroCells (Value.int .u8 0).cells (cap2 - n)) = Z at happ
  have hZs : Z.size = cap2 := by rw [← hZ]; simp [size_zeroCells, Value.cells]; omega
  have HZ := hid hZs; have HC := hid hcaple; have HA := hid happ
  clear hcap hZ hi hz0 hz1 hz2 hZs happ
  have hd1 : decide ((n : Int) < 0) = false := decide_eq_false (by omega)
  have hd2 : decide (0 < (n : Int)) = true := decide_eq_true (by omega)
  go_enter Try.func68, Try.ntmps68
  go_wp2_with (at_builtin; refine Lib.wpList_append_run _ rfl _ _ _ _ rfl _ _ rfl rfl _ _ HA.out ?_)
  go_ret
  have HG := heap_alloc_new w.drew (Obj.cells Z 5)
  exact ⟨_, rfl, ownsRow_room (Nat.le_refl _) HG HC.out HZ.out, Below.grow (Below.refl _ _).drew _⟩

/-- What Concat leaves. -/
def Joined (w : World) (L M : List Int) (e : Ending) (w' : World) : Prop := ∃ A c, e = .returned (.slice A (L ++ M).length c) ∧ BytesAt w' A (L ++ M) ∧ Below w.heap.size w w'
theorem bytes_news {w : World} {ad : Addr} {L : List Int} (h : BytesAt w (some ad) L) : ∀ j u, (u8cells L)[j]? = some u → w.cell? (ad.add j) = some u := by
  intro j u hu
  have hj : j < L.length := by have := (List.getElem?_eq_some_iff.1 hu).1; rwa [u8cells_len] at this
  obtain ⟨b, o, e, hc⟩ := h (by omega)
  cases e
  rw [add_at _ rfl, hc j hj]
  rw [u8cells_at (List.getElem?_eq_getElem hj)] at hu
  rw [← hu, List.getD, List.getElem?_eq_getElem hj]
  rfl
/-- How many bytes the first slices have, and which. -/
def szTo (L M : List Int) (k : Nat) : List Int := if k = 0 then [] else if k = 1 then L else L ++ M
set_option maxHeartbeats 8000000 in
set_option maxRecDepth 100000 in
theorem concat_any (w : World) (g cg : Nat) (A1 A2 : Option Addr) (c1 c2 : Nat) (L M : List Int) (h0 : w.cell? ⟨g, 0, none⟩ = some (.slice A1 L.length c1)) (h1 : w.cell? ⟨g, 1, none⟩ = some (.slice A2 M.length c2))
    (hL : BytesAt w A1 L) (hM : BytesAt w A2 M) (hl : 1 ≤ L.length) (hl2 : L.length + M.length ≤ 400000) (hn : A2 = none → c2 = 0) :
    Calls Try.prog 41 #[.slice (some ⟨g, 0, none⟩) 2 cg] w (Joined w L M) := by
  obtain ⟨i0, hi, hz0, hz1, hz2⟩ := info_parts info5b
  have HI := hid hi; have HZ0 := hid hz0; have HZ1 := hid hz1; have HZ2 := hid hz2; clear hi hz0 hz1 hz2
  have hg : g < w.heap.size := World.block_lt_of_cell? w _ h0
  have HC0 := hid h0; have HC1 := hid h1; have HL := hid hL; have HM := hid hM; have HN := hid hn; have HG := hid hg
  clear h0 h1 hL hM hn hg
  have hlm : (L ++ M).length = L.length + M.length := by simp
  have HLM := hid hlm; clear hlm
  go_enter Try.func41, Try.ntmps41
  go_wp2
  go_loopw [3, 11] (fun s i wr => ∃ k : Nat, k ≤ 2 ∧ i = .int .i64 k ∧ s = .int .i64 ((szTo L M k).length : Nat) ∧ Hid (Below w.heap.size w wr)) (fun _ i _ => 2 - (intOf i).toNat)
  case atStart => exact ⟨0, by omega, rfl, rfl, hid (Below.refl _ _)⟩
  case round =>
    obtain ⟨k, hk, rfl, rfl, HW⟩ := hrel
    have hc : k = 0 ∨ k = 1 ∨ k = 2 := by omega
    rcases hc with rfl | rfl | rfl
    · have hc0 : wr.cell? ⟨g, 0, none⟩ = some (.slice A1 L.length c1) := (HW.out.cell (p := ⟨g, 0, none⟩) HG.out).trans HC0.out
      have hs : szTo L M 0 = [] := rfl
      rw [hs]
      clear hs
      have hd : decide ((L.length : Int) < 0) = false := decide_eq_false (by omega)
      go_wp2
      go_roundw
      case rel => exact ⟨1, by omega, rfl, by simp [szTo], HW⟩
      case measure => simp [intOf]
    · have hc1 : wr.cell? ⟨g, 1, none⟩ = some (.slice A2 M.length c2) := (HW.out.cell (p := ⟨g, 1, none⟩) HG.out).trans HC1.out
      have hs : szTo L M 1 = L := rfl
      rw [hs]
      clear hs
      have hw : IntKind.i64.wrap ((L.length : Int) + (M.length : Int)) = (L.length : Int) + (M.length : Int) := by rw [IntKind.wrap_i64]; omega
      have hd : decide ((L.length : Int) + (M.length : Int) < 0) = false := decide_eq_false (by omega)
      go_wp2
      go_roundw
      case rel => exact ⟨2, by omega, rfl, by simp [szTo], HW⟩
      case measure => simp [intOf]
    · have hs : (szTo L M 2).length = L.length + M.length := by simp [szTo]
      obtain ⟨wg, rfl⟩ : ∃ z, z = wr := ⟨wr, rfl⟩
      rw [hs]
      clear hs
      go_wp2_with fail
      refine (grow_nil (L.length + M.length) _ (by omega) (by omega)).mono ?_
      rintro e w1 ⟨v1, rfl, ho1, hb1⟩
      have HO1 := hid ho1; have HB1 := hid (Below.step HW.out hb1); have HS1 := hid hb1.size; clear ho1 hb1
      have hbs : w.heap.size ≤ wg.heap.size := HW.out.size
      go_wp2_with fail
      go_loopw [6, 27] (fun v i wz => ∃ k : Nat, k ≤ 2 ∧ i = .int .i64 k ∧ Hid (Below w.heap.size w wz) ∧ Hid (wz.ownsRow wg.heap.size 5 1 v (szTo L M k).length (u8cells (szTo L M k))) ∧ Hid (wg.heap.size ≤ wz.heap.size)) (fun _ i _ => 2 - (intOf i).toNat)
      case atStart => exact ⟨0, by omega, rfl, HB1, HO1, HS1⟩
      case round =>
        obtain ⟨k, hk, rfl, HW2, HO2, HS2⟩ := hrel
        have hc : k = 0 ∨ k = 1 ∨ k = 2 := by omega
        rcases hc with rfl | rfl | rfl
        · have hc0 : wr.cell? ⟨g, 0, none⟩ = some (.slice A1 L.length c1) := (HW2.out.cell (p := ⟨g, 0, none⟩) HG.out).trans HC0.out
          obtain ⟨b1, o1, rfl, _⟩ := HL.out (by omega)
          have HN1 : Hid (∀ j u, (u8cells L)[j]? = some u → wr.cell? ((⟨b1, o1, none⟩ : Addr).add j) = some u) := hid (bytes_news (HL.out.below HW2.out))
          have HML : Hid (0 + L.length ≤ maxLen) := hid (by unfold maxLen; omega)
          clear hbs
          go_wp2_with (first | (at_builtin; refine wpList_append_own _ rfl _ _ 55 rfl wg.heap.size 5 i0 _ 1 1 Try.underlying55 HI.out HZ0.out HZ1.out HZ2.out rfl (by decide) u6 0 [] rfl HO2.out ⟨b1, o1, none⟩ L.length c1 (u8cells L) rfl (by rw [u8cells_len, Nat.mul_one]) HN1.out (u8cells_one L) HML.out (by omega) HS2.out ?_))
          rintro v' w' hown' hg' -
          have HO3 : Hid (w'.ownsRow wg.heap.size 5 1 v' (szTo L M 1).length (u8cells (szTo L M 1))) := hid (by simpa [szTo] using hown')
          have HW3 : Hid (Below w.heap.size w w') := hid (Below.grown HW2.out hg' HW2.out.size (fun q hq => by have := HO2.out.lt q hq; have := HW.out.size; omega))
          have HS3 : Hid (wg.heap.size ≤ w'.heap.size) := hid (Nat.le_trans HS2.out hg'.size)
          clear hown' hg'
          go_wp2
          go_roundw
          case rel => exact ⟨1, by omega, rfl, HW3, HO3, HS3⟩
          case measure => simp [intOf]
        · have hc1 : wr.cell? ⟨g, 1, none⟩ = some (.slice A2 M.length c2) := (HW2.out.cell (p := ⟨g, 1, none⟩) HG.out).trans HC1.out
          have HML : Hid ((szTo L M 1).length + M.length ≤ maxLen) := hid (by unfold maxLen szTo; simp; omega)
          have HML2 : Hid ((szTo L M 1).length + M.length ≤ 400000) := hid (by unfold szTo; simp; omega)
          clear hbs
          cases A2 with
          | none =>
            have hM0 : M.length = 0 := by
              by_cases h : M.length = 0
              · exact h
              · obtain ⟨_, _, e, _⟩ := HM.out (by omega); cases e
            have hc2 : c2 = 0 := HN.out rfl
            have HM0 := hid hM0
            rw [hM0, hc2] at hc1
            clear hM0 hc2
            go_wp2_with (first | (at_builtin; refine wpList_append_own_none rfl _ _ 55 rfl wg.heap.size 5 i0 1 Try.underlying55 HI.out u6 (szTo L M 1).length (u8cells (szTo L M 1)) rfl HO2.out rfl ?_))
            have HO3 : Hid (wr.ownsRow wg.heap.size 5 1 u6 (szTo L M 2).length (u8cells (szTo L M 2))) := hid (by have := HO2.out; have e := List.eq_nil_of_length_eq_zero HM0.out; rw [e] at this ⊢; simpa [szTo] using this)
            go_roundw
            case rel => exact ⟨2, by omega, rfl, HW2, HO3, HS2⟩
            case measure => simp [intOf]
          | some a2 =>
            have HN1 : Hid (∀ j u, (u8cells M)[j]? = some u → wr.cell? (a2.add j) = some u) := hid (bytes_news (HM.out.below HW2.out))
            go_wp2_with (first | (at_builtin; refine wpList_append_own _ rfl _ _ 55 rfl wg.heap.size 5 i0 _ 1 1 Try.underlying55 HI.out HZ0.out HZ1.out HZ2.out rfl (by decide) u6 (szTo L M 1).length (u8cells (szTo L M 1)) rfl HO2.out a2 M.length c2 (u8cells M) rfl (by rw [u8cells_len, Nat.mul_one]) HN1.out (u8cells_one M) HML.out (by have := HML2.out; omega) HS2.out ?_))
            rintro v' w' hown' hg' -
            have HO3 : Hid (w'.ownsRow wg.heap.size 5 1 v' (szTo L M 2).length (u8cells (szTo L M 2))) := hid (by rw [← u8cells_append] at hown'; simpa [szTo] using hown')
            have HW3 : Hid (Below w.heap.size w w') := hid (Below.grown HW2.out hg' HW2.out.size (fun q hq => by have := HO2.out.lt q hq; have := HW.out.size; omega))
            have HS3 : Hid (wg.heap.size ≤ w'.heap.size) := hid (Nat.le_trans HS2.out hg'.size)
            clear hown' hg'
            go_wp2
            go_roundw
            case rel => exact ⟨2, by omega, rfl, HW3, HO3, HS3⟩
            case measure => simp [intOf]
        · obtain ⟨A, c, rfl, hA⟩ := bytesAt_own HO2.out
          have HA := hid hA; clear hA hbs
          go_wp2
          go_ret
          exact ⟨A, c, rfl, HA.out, HW2.out⟩
end Go.Proofs.Ytjefhconahdbiaa
