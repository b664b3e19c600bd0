/- The reference's entry, Differ, Writes of a log; the law's test of sizes. -/
import Derived.Test.YtjefhconahdbiaaRefLog
namespace Go.Proofs.Ytjefhconahdbiaa
open Go.RowKit

theorem ownsRow_below {w w' : World} {base : Nat} {e : TypeId} {sz n : Nat} {v : Value} {xs : List Value} (h : w.ownsRow base e sz v n xs) (hb : Below w.heap.size w w') : w'.ownsRow base e sz v n xs := by
  refine ⟨h.1, ?_⟩
  rcases h.2 with h' | ⟨g, cap, cur, h1, h2, h3, h4⟩
  · exact Or.inl h'
  · exact Or.inr ⟨g, cap, cur, h1, h2, by rw [hb.block g (by rw [Array.getElem?_eq_some_iff] at h3; exact h3.1)]; exact h3, h4⟩
def RefEntry (z : List Int) (w : World) (e : Ending) (w' : World) : Prop :=
  ∃ B c, e = .returned (.slice B 14 c) ∧ IntsAt w' B z ∧ Below w.heap.size w w'
set_option maxHeartbeats 4000000 in
set_option maxRecDepth 100000 in
theorem refentry_any (A : Option Addr) (xs : List (List Int)) (c k : Nat) (w : World) (hx : LogAt w A xs) (hk : k ≤ xs.length) (h14 : ∀ z ∈ xs, z.length = 14) :
    Calls Try.prog 71 #[.slice A xs.length c, .int .i64 ((k : Int) - 1)] w (RefEntry (prev xs k) w) := by
  have HX := hid hx; clear hx
  have H14 := hid h14; clear h14
  by_cases h0 : k = 0
  · subst h0
    obtain ⟨i0, hi, hz0, hz1, hz2⟩ := info_parts info3
    have HI := hid hi; have HZ0 := hid hz0; have HZ1 := hid hz1; have HZ2 := hid hz2; clear hi hz0 hz1 hz2
    go_enter Try.func71, Try.ntmps71
    go_wp2_with (first | (at_make; refine wpList_make_rows rfl _ _ 61 rfl 3 i0 _ 1 Try.underlying61 HI.out HZ0.out HZ1.out .i64 .i64 14 rfl rfl (by rw [HZ2.out]; omega) (by omega) ?_))
    go_ret
    refine ⟨_, _, rfl, fun _ => ⟨_, _, rfl, ?_⟩, Below.grow (Below.refl _ _) _⟩
    have h := range_made w (madeCells (Value.int .i64 0).cells (14 * 1)) 3
    have e : (madeCells (Value.int .i64 0).cells (14 * 1)).toList = icells (prev xs 0) := by kernel_rfl
    rw [e] at h
    exact h
  · obtain ⟨b, off, B, c', z, rfl, hxk, hc1, hc2⟩ := HX.out (k - 1) (by omega)
    have hl : z.length = 14 := H14.out z (List.mem_of_getElem? hxk)
    have hp : prev xs k = z := by unfold prev; rw [if_neg h0, List.getD, hxk]; rfl
    rw [hl] at hc1
    rw [hp]
    have HC := hid hc2; clear hc2 hp hxk
    have h1 : decide ((k : Int) - 1 < 0) = false := decide_eq_false (by omega)
    have hi0 : (0 : Int) ≤ (k : Int) - 1 := by omega
    have hi1 : (k : Int) - 1 < (xs.length : Int) := by omega
    have hin : ((k : Int) - 1).toNat = k - 1 := by omega
    have H0 := hid h0; clear h0
    go_enter Try.func71, Try.ntmps71
    go_wp2
    go_ret
    exact ⟨_, _, rfl, HC.out, Below.refl _ _⟩

set_option maxHeartbeats 4000000 in
set_option maxRecDepth 100000 in
theorem refdiffer_any (A : Option Addr) (xs : List (List Int)) (c k : Nat) (w : World) (hx : LogAt w A xs) (hk : k < xs.length) (hn : xs.length ≤ 4000) (h14 : ∀ z ∈ xs, z.length = 14) :
    Calls Try.prog 46 #[.slice A xs.length c, .int .i64 k] w (Changed (prev xs k) (xs.getD k []) w) := by
  have HX := hid hx; clear hx
  have HP := hid (prev_len h14 (Nat.le_of_lt hk))
  have H14 := hid h14; clear h14
  obtain ⟨i0, hi, hz0, hz1, hz2⟩ := info_parts info3
  have HI := hid hi; have HZ0 := hid hz0; have HZ1 := hid hz1; have HZ2 := hid hz2; clear hi hz0 hz1 hz2
  obtain ⟨b, off, B, c', z, rfl, hxk, hc1, hc2⟩ := HX.out k hk
  have hl : z.length = 14 := H14.out z (List.mem_of_getElem? hxk)
  have hp : xs.getD k [] = z := by rw [List.getD, hxk]; rfl
  rw [hp]
  obtain ⟨b', off', rfl, hra⟩ := hc2 (by omega)
  have HRA := hid hra
  have hbz : b' < w.heap.size := World.block_lt_of_cell? w _ (hra 0 _ (List.getElem?_eq_getElem (by rw [icells_len]; omega)))
  rw [hl] at hc1
  have HL := hid hl; clear hp hxk hc2 hra hl
  have hk0 : (0 : Int) ≤ (k : Int) := Int.natCast_nonneg _
  have hk1 : (k : Int) < (xs.length : Int) := by omega
  have hk4 : k < 4000 := by omega
  have HN := hid hn; clear hn
  go_enter Try.func46, Try.ntmps46
  go_wp2
  clear hc1
  go_loopw [5, 13] (fun v i wr => ∃ j m : Nat, j ≤ 14 ∧ m ≤ 14 ∧ i = .int .i64 j ∧ Hid (m = (diffsTo (prev xs k) z j).length) ∧ Hid (wr.ownsRow w.heap.size 3 1 v m (icells (diffsTo (prev xs k) z j))) ∧ Hid (Below w.heap.size w wr)) (fun _ i _ => 14 - (intOf i).toNat)
  case atStart => exact ⟨0, 0, Nat.zero_le _, Nat.zero_le _, rfl, hid rfl, hid (World.ownsRow_nil _ _ _ _), hid (Below.refl _ _)⟩
  case round =>
    obtain ⟨j, m, hj, hm, rfl, HM, HO, HB⟩ := hrel
    by_cases hlt : j < 14
    · obtain ⟨p, hp⟩ : ∃ v, (prev xs k)[j]? = some v := ⟨_, List.getElem?_eq_getElem (by have := HP.out; omega)⟩
      obtain ⟨q, hq⟩ : ∃ v, z[j]? = some v := ⟨_, List.getElem?_eq_getElem (by have := HL.out; omega)⟩
      have hcq := rangeAt_below' HRA.out HB.out hbz j _ (icells_at hq)
      have HD : Hid (p = q → diffsTo (prev xs k) z (j + 1) = diffsTo (prev xs k) z j) := hid (by
        intro h; rw [diffsTo, List.getD, List.getD, hp, hq]; exact if_pos h)
      have HE : Hid (p ≠ q → diffsTo (prev xs k) z (j + 1) = diffsTo (prev xs k) z j ++ [(j : Int)]) := hid (by
        intro h; rw [diffsTo, List.getD, List.getD, hp, hq]; exact if_neg h)
      have HPJ := hid (icells_at hp)
      clear hp hq
      have hj0 : (0 : Int) ≤ (j : Int) := Int.natCast_nonneg _
      have hj1 : (j : Int) < 14 := by omega
      have hsz := HB.out.size
      have hwk : IntKind.i64.wrap ((k : Int) - 1) = (k : Int) - 1 := by rw [IntKind.wrap_i64]; omega
      go_wp2_with fail
      try rw [hwk]
      refine (refentry_any _ xs c k _ (HX.out.below HB.out) (by omega) H14.out).mono ?_
      rintro e w1 ⟨B1, c1, rfl, hints, hb⟩
      obtain ⟨b1, off1, rfl, hr1⟩ := hints (by rw [HP.out]; omega)
      have hcp := hr1 j _ HPJ.out
      have HB1 := hid (Below.step HB.out hb)
      have HO1 : Hid (w1.ownsRow w.heap.size 3 1 u5 m (icells (diffsTo (prev xs k) z j))) := hid (ownsRow_below HO.out hb)
      have hsz1 := HB1.out.size
      clear hr1 hints HO hb
      have hcq1 := (HB1.out.cell (p := ⟨b', off' + j, none⟩) hbz).trans ((HB.out.cell (p := ⟨b', off' + j, none⟩) hbz).symm.trans hcq)
      clear hcq HB
      by_cases hpq : p = q
      · have HD' := hid (HD.out hpq); clear HD HE
        subst hpq
        go_wp2
        go_roundw
        case rel => exact ⟨j + 1, m, by omega, hm, by go_num, hid (by rw [HD'.out]; exact HM.out), hid (by rw [HD'.out]; exact HO1.out), HB1.out⟩
        case measure => simp [intOf]; omega
      · have hne : (p != q) = true := by rw [bne_iff_ne]; exact hpq
        have HE' := hid (HE.out hpq); clear HD HE hpq
        have HML : Hid (m + 1 ≤ maxLen) := hid (by unfold maxLen; omega)
        go_wp2_with (first | (at_builtin; refine wpList_append_own _ rfl _ _ 61 rfl w.heap.size 3 i0 _ 1 8 Try.underlying61 HI.out HZ0.out HZ1.out HZ2.out rfl (by decide) u5 m _ rfl (HO1.out.alloc _) _ 1 1 [.int .i64 j] rfl rfl (news_int _ _ _) (by simp [Value.oneCell']) HML.out (by omega) (by simp; omega) ?_))
        intro v' w4 hown hg _
        have HO4 := hid hown
        have HB4 := hid (Below.grown (Below.alloc HB1.out (by omega) (.cells #[.int .i64 (j : Int)] 3)) hg (by simp; omega) (fun q hq => (HO1.out.lt q hq).1)); clear hg hown HO1 HB1
        go_wp2
        go_roundw
        case rel => exact ⟨j + 1, m + 1, by omega, by have := HM.out; have := diffsTo_le (prev xs k) z j; omega, by go_num, hid (by rw [HE'.out, HM.out]; simp), hid (by rw [HE'.out]; simpa [icells] using HO4.out), HB4.out⟩
        case measure => simp [intOf]; omega
    · obtain rfl : j = 14 := by omega
      go_wp2
      go_ret
      exact ⟨_, rfl, by have h := HO.out; rw [HM.out] at h; exact h, HB.out⟩

set_option maxHeartbeats 4000000 in
set_option maxRecDepth 100000 in
theorem refwrites_any (A : Option Addr) (xs : List (List Int)) (c : Nat) (w : World) (hx : LogAt w A xs) :
    Calls Try.prog 22 #[.slice A xs.length c] w (Written xs w) := by
  have HX := hid hx; clear hx
  cases hok : okLog xs with
  | false =>
    have HOK := hid hok; clear hok
    go_enter Try.func22, Try.ntmps22
    go_wp2_with fail
    refine (refright_any A xs c _ HX.out).mono ?_
    rintro e w1 ⟨rfl, hb⟩
    rw [HOK.out]
    have HB1 := hid hb; clear hb
    go_wp2
    go_ret2
    exact written_no HOK.out HB1.out
  | true =>
    have HN := hid (okLog_len hok)
    have H14 := hid (okLog_14 hok)
    have HOK := hid hok; clear hok
    go_enter Try.func22, Try.ntmps22
    go_wp2_with fail
    refine (refright_any A xs c _ HX.out).mono ?_
    rintro e w1 ⟨rfl, hb⟩
    rw [HOK.out]
    have HB1 := hid hb; clear hb
    go_wp2
    go_loopw [4, 11] (fun m i wr => ∃ k : Nat, k ≤ xs.length ∧ i = .int .i64 k ∧ m = .int .i64 (writesTo xs k) ∧ Hid (Below w.heap.size w wr)) (fun _ i _ => xs.length - (intOf i).toNat)
    case atStart => exact ⟨0, Nat.zero_le _, rfl, rfl, HB1.out⟩
    case round =>
      obtain ⟨k, hk, rfl, rfl, HB⟩ := hrel
      by_cases hlt : k < xs.length
      · have HW : Hid (writesTo xs (k + 1) = writesTo xs k + (diffs (prev xs k) (xs.getD k [])).length) := hid rfl
        have hwl := writesTo_le xs k
        have hk4 : k < 4000 := by have := HN.out; omega
        generalize writesTo xs k = m at *
        go_wp2_with fail
        refine (refdiffer_any A xs c k _ (HX.out.below HB.out) hlt HN.out H14.out).mono ?_
        rintro e w2 ⟨v, rfl, ho, hb⟩
        obtain ⟨A', cc, rfl, -⟩ := owned_form ho
        have HB2 := hid (Below.step HB.out hb); clear hb ho HB
        have hdl : (diffs (prev xs k) (xs.getD k [])).length ≤ 14 := diffsTo_le _ _ _
        generalize (diffs (prev xs k) (xs.getD k [])).length = dl at *
        have HWR : Hid (IntKind.i64.wrap ((m : Int) + (dl : Int)) = ((m + dl : Nat) : Int)) := hid (by rw [IntKind.wrap_i64]; omega)
        go_wp2
        go_roundw
        case rel => exact ⟨k + 1, by omega, by go_num, by rw [HW.out]; go_num, HB2.out⟩
        case measure => simp [intOf]; omega
      · obtain rfl : k = xs.length := by omega
        go_wp2
        go_ret2
        exact written_yes HOK.out HB.out

def tameLog (xs : List (List Int)) : Bool := decide (xs.length ≤ 600) && xs.all fun z => decide (z.length ≤ 40)
set_option maxHeartbeats 4000000 in
set_option maxRecDepth 100000 in
theorem tame_any (A : Option Addr) (xs : List (List Int)) (c : Nat) (w : World) (hx : LogAt w A xs) :
    Calls Try.prog 20 #[.slice A xs.length c] w fun e w' => e = .returned (.bool (tameLog xs)) ∧ Below w.heap.size w w' := by
  have HX := hid hx; clear hx
  have H : ∀ b : Bool, decide (xs.length ≤ 600) = b → Hid (tameLog xs = (if b then xs.all fun z => decide (z.length ≤ 40) else false)) := by
    intro b hb; refine hid ?_; unfold tameLog; rw [hb]; cases b <;> simp
  by_cases h : xs.length ≤ 600
  · have H1 := H _ (decide_eq_true h); clear H
    have hd : decide (600 < (xs.length : Int)) = false := decide_eq_false (by omega)
    go_enter Try.func20, Try.ntmps20
    go_wp2
    go_loopw [10] (fun i wr => ∃ k : Nat, k ≤ xs.length ∧ i = .int .i64 k ∧ Hid (Below w.heap.size w wr) ∧ Hid (((xs.take k).all fun z => decide (z.length ≤ 40)) = true)) (fun i _ => xs.length - (intOf i).toNat)
    case atStart => exact ⟨0, Nat.zero_le _, rfl, hid (Below.refl _ _), hid rfl⟩
    case round =>
      obtain ⟨k, hk, rfl, HB, HR⟩ := hrel
      by_cases hlt : k < xs.length
      · obtain ⟨b, off, B, c', z, rfl, hxk, hc1, hc2⟩ := (HX.out.below HB.out) k hlt
        have HXK := hid hxk; clear hxk hc2
        by_cases h40 : z.length ≤ 40
        · have hd4 : decide (40 < (z.length : Int)) = false := decide_eq_false (by omega)
          have H40 := hid h40; clear h40
          go_wp2
          go_roundw
          case rel => exact ⟨k + 1, by omega, by go_num, HB.out, hid (all_take_succ HXK.out HR.out (decide_eq_true H40.out))⟩
          case measure => simp [intOf]; omega
        · have hd4 : decide (40 < (z.length : Int)) = true := decide_eq_true (by omega)
          have H40 := hid h40; clear h40
          go_wp2
          go_ret
          exact ⟨ret_bool (by rw [H1.out]; exact (all_false_of (p := fun z : List Int => decide (z.length ≤ 40)) HXK.out (decide_eq_false H40.out)).symm), HB.out⟩
      · obtain rfl : k = xs.length := by omega
        go_wp2
        go_ret
        exact ⟨ret_bool (by rw [H1.out]; have := HR.out; rw [List.take_length] at this; exact this.symm), HB.out⟩
  · have H1 := H _ (decide_eq_false h); clear H
    have hd : decide (600 < (xs.length : Int)) = true := decide_eq_true (by omega)
    have HN := hid h; clear h
    go_enter Try.func20, Try.ntmps20
    go_wp2
    go_ret
    exact ⟨ret_bool (by rw [H1.out]; rfl), Below.refl _ _⟩
end Go.Proofs.Ytjefhconahdbiaa
