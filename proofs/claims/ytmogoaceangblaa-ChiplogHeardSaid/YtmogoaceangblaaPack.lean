/- chiplog.Pack and the reference's Pack give the bytes of the plain list, or refuse what is no log. -/
import Derived.Test.YtmogoaceangblaaPacked
import Derived.Test.YtmogoaceangblaaAgain
namespace Go.Proofs.Ytmogoaceangblaa
open Go.RowKit

def Packs (xs : List (List Int)) (w : World) (e : Ending) (w' : World) : Prop :=
  ∃ v, e = .returned (.tuple #[v, .int .i64 (if okLog xs then 0 else 1)]) ∧ (okLog xs = true → w'.ownsRow w.heap.size 5 1 v (packed xs).length (u8cells (packed xs))) ∧ (okLog xs = false → v = .slice none 0 0) ∧ Below w.heap.size w w'
theorem packs_no {xs : List (List Int)} {w w' : World} (h : okLog xs = false) (hb : Below w.heap.size w w') : Packs xs w (.returned (.tuple #[.slice none 0 0, .int .i64 1])) w' := by
  unfold Packs; rw [h]; exact ⟨_, rfl, (fun h' => by cases h'), fun _ => rfl, hb⟩
theorem packs_yes {xs : List (List Int)} {w w' : World} {v : Value} (h : okLog xs = true) (ho : w'.ownsRow w.heap.size 5 1 v (packed xs).length (u8cells (packed xs))) (hb : Below w.heap.size w w') : Packs xs w (.returned (.tuple #[v, .int .i64 0])) w' := by
  unfold Packs; rw [h]; exact ⟨_, rfl, fun _ => ho, (fun h' => by cases h'), hb⟩
theorem packed_len (xs : List (List Int)) (i : Nat) : (packFrom xs i).length ≤ 17 * (xs.length - i) + 1 := by
  by_cases h : i < xs.length
  · rw [packFrom_more h, List.length_append]
    have h1 := (cmdAt_len xs i).2
    have h2 := cmdAt_pos xs i
    have h3 := cmdAt_bound xs i h
    have ih := packed_len xs (i + (cmdAt xs i).2)
    omega
  · rw [packFrom_end h]; simp
termination_by xs.length - i
decreasing_by omega
theorem packed_len4 {xs : List (List Int)} (h : xs.length ≤ 4000) : (packed xs).length ≤ 68001 := by
  have := packed_len xs 0; unfold packed; omega

theorem own_some {w : World} {base n : Nat} {e : TypeId} {v : Value} {xs : List Value} (h : w.ownsRow base e 1 v n xs) (h0 : 0 < n) : ∃ g cap, v = .slice (some ⟨g, 0, none⟩) n cap ∧ base ≤ g ∧ g < w.heap.size := by
  rcases h.2 with ⟨_, h1⟩ | ⟨g, cap, cur, rfl, hg, hc, _⟩
  · omega
  · exact ⟨g, cap, rfl, hg, (Array.getElem?_eq_some_iff.1 hc).1⟩
set_option maxHeartbeats 8000000 in
set_option maxRecDepth 100000 in
theorem pack_any (A : Option Addr) (xs : List (List Int)) (c : Nat) (w : World) (hx : LogAt w A xs) :
    Calls Try.prog 6 #[.slice A xs.length c] w (Packs xs w) := by
  have HX := hid hx; clear hx
  cases hok : okLog xs with
  | false =>
    have HOK := hid hok; clear hok
    go_enter Try.func6, Try.ntmps6
    go_wp2_with fail
    refine (entries_any A xs c _ HX.out).mono ?_
    rintro e w1 ⟨v, rfl, _, hv, hb⟩
    rw [HOK.out, hv HOK.out]
    have HB1 := hid hb; clear hb hv
    go_wp2
    go_ret2
    exact packs_no HOK.out HB1.out
  | true =>
    have hn := okLog_len hok
    have H14 := hid (okLog_14 hok)
    have HRT := hid (okLog_all hok)
    have HOK := hid hok; clear hok
    obtain ⟨i0, hi, hz0, hz1, hz2⟩ := info_parts info5
    have HI := hid hi; have HZ0 := hid hz0; have HZ1 := hid hz1; have HZ2 := hid hz2; clear hi hz0 hz1 hz2
    go_enter Try.func6, Try.ntmps6
    go_wp2_with fail
    refine (entries_any A xs c _ HX.out).mono ?_
    rintro e w1 ⟨v, rfl, hv, _, hb⟩
    obtain ⟨EA, ec, rfl, hex⟩ := hv HOK.out
    rw [HOK.out]
    have HB1 := hid hb; have HE := hid hex; clear hb hv hex
    have hs1 := HB1.out.size
    go_wp2
    go_loopw [6, 7] (fun v i wr => ∃ (k : Nat) (out : List Int), k ≤ xs.length ∧ i = .int .i64 k ∧ out.length ≤ 17 * k ∧ Hid (out ++ packFrom xs k = packed xs) ∧ Hid (wr.ownsRow w1.heap.size 5 1 v out.length (u8cells out)) ∧ Hid (Below w1.heap.size w1 wr)) (fun _ i _ => xs.length - (intOf i).toNat)
    case atStart => exact ⟨0, [], Nat.zero_le _, rfl, Nat.zero_le _, hid rfl, hid (World.ownsRow_nil _ _ _ _), hid (Below.refl _ _)⟩
    case round =>
      obtain ⟨k, out, hk, rfl, hol, HP, HO, HB⟩ := hrel
      by_cases hlt : k < xs.length
      · obtain ⟨a, ha⟩ : ∃ a, sameLen xs k = a := ⟨_, rfl⟩
        obtain ⟨b, d, hbd⟩ : ∃ b d, bestTo xs k (min 255 k) = (b, d) := ⟨_, _, rfl⟩
        have ha7 : a ≤ 127 := by rw [← ha]; exact sameLen_le _ _
        have hak : k + a ≤ xs.length := by rw [← ha]; exact sameLen_bound _ _ (by omega)
        have hb6 : b ≤ 64 := by have := (bestTo_le xs k (min 255 k)).1; rw [hbd] at this; exact this
        have hbk : k + b ≤ xs.length := by have := bestTo_bound xs k (min 255 k) (by omega); rw [hbd] at this; exact this
        have hd5 : d ≤ 255 := by have := (bestTo_le xs k (min 255 k)).2; rw [hbd] at this; omega
        have HA := hid ha; have HBD := hid hbd; clear ha hbd
        go_wp2_with fail
        refine (same_any EA xs ec k _ (HE.out.below HB.out) (by omega) hn H14.out).mono ?_
        rintro e w2 ⟨rfl, hb2⟩
        rw [show upto (sameAs xs k) 127 0 = a from HA.out]
        have HB2 := hid (Below.step HB.out hb2); have HO2 : Hid (w2.ownsRow w1.heap.size 5 1 u6 out.length (u8cells out)) := hid (ownsRow_below HO.out hb2); clear hb2 HO HB
        go_wp2_with fail
        refine (again_any EA xs ec k _ (HE.out.below HB2.out) (by omega) hn).mono ?_
        rintro e w3 ⟨rfl, hb3⟩
        rw [HBD.out]
        have HB3 := hid (Below.step HB2.out hb3); have HO3 : Hid (w3.ownsRow w1.heap.size 5 1 u6 out.length (u8cells out)) := hid (ownsRow_below HO2.out hb3); clear hb3 HO2 HB2
        have hs3 := HB3.out.size
        by_cases hc1 : 0 < a ∧ b ≤ a
        · have HC := hid (cmd_run HA.out HBD.out hc1)
          have ht1 : decide (0 < a) = true := decide_eq_true hc1.1
          have ht2 : decide (b ≤ a) = true := decide_eq_true hc1.2
          have hwa : IntKind.u8.wrap (a : Int) = (a : Int) := by rw [IntKind.wrap_u8]; omega
          have ha0 := hc1.1
          clear hc1
          have HLM : Hid (out.length + 1 ≤ maxLen) := hid (by unfold maxLen; omega)
          go_wp2_with (first | (at_builtin; refine wpList_append_own _ rfl _ _ 24 rfl w1.heap.size 5 i0 _ 1 1 Try.underlying24 HI.out HZ0.out HZ1.out HZ2.out rfl (by decide) u6 out.length _ rfl (HO3.out.alloc _) _ 1 1 [.int .u8 (a : Int)] rfl rfl (news_u8 _ _ _) (by simp [Value.oneCell']) HLM.out (by omega) (by simp; omega) ?_))
          intro v' w4 hown hg4 _
          have HO4 := hid hown
          have HB4 := hid (Below.grown (Below.grow HB3.out (.cells #[.int .u8 (a : Int)] 5)) hg4 (by simp; omega) (fun q hq => (HO3.out.lt q hq).1))
          clear hown hg4 HO3 HB3 ht1 ht2 hwa
          go_wp2
          go_roundw
          case rel => exact ⟨k + a, out ++ [(a : Int)], by omega, by go_num, by simp; omega, hid (pack_step hlt HP.out HC.out), hid (by rw [u8cells_append]; simpa [u8cells] using HO4.out), HB4.out⟩
          case measure => simp [intOf]; omega
        · have HC1 := hid hc1
          have hgo : (∀ K : Prop, (0 < a → ¬ b ≤ a → K) → (decide (0 < a) = false → K) → K) := fun K h1 h2 => by
            by_cases h : 0 < a
            · exact h1 h (fun h' => HC1.out ⟨h, h'⟩)
            · exact h2 (decide_eq_false h)
          by_cases hb2 : 2 ≤ b
          · have HC := hid (cmd_rep HA.out HBD.out hc1 hb2)
            have ht2 : decide ((2 : Int) ≤ (b : Int)) = true := decide_eq_true (by omega)
            have hwa : IntKind.u8.wrap (193 + (b : Int) - 2) = 191 + (b : Int) := by rw [IntKind.wrap_u8]; omega
            have hwd : IntKind.u8.wrap (d : Int) = (d : Int) := by rw [IntKind.wrap_u8]; omega
            have HLM : Hid (out.length + 2 ≤ maxLen) := hid (by unfold maxLen; omega)
            clear hc1
            refine hgo _ (fun ha0 hba => ?_) (fun ha1 => ?_)
            all_goals
              clear hgo
              go_wp2_with (first | (at_builtin; refine wpList_append_own _ rfl _ _ 24 rfl w1.heap.size 5 i0 _ 1 1 Try.underlying24 HI.out HZ0.out HZ1.out HZ2.out rfl (by decide) u6 out.length _ rfl (HO3.out.alloc _) _ 2 2 [.int .u8 (191 + (b : Int)), .int .u8 (d : Int)] rfl rfl (news_u82 _ _ _ _) (by simp [Value.oneCell']) HLM.out (by omega) (by simp; omega) ?_))
              intro v' w4 hown hg4 _
              have HO4 := hid hown
              have HB4 := hid (Below.grown (Below.grow HB3.out (.cells #[.int .u8 (191 + (b : Int)), .int .u8 (d : Int)] 5)) hg4 (by simp; omega) (fun q hq => (HO3.out.lt q hq).1))
              clear hown hg4 HO3 HB3 hwa hwd
              go_wp2
              go_roundw
              case rel => exact ⟨k + b, out ++ [191 + (b : Int), (d : Int)], by omega, by go_num, by simp; omega, hid (pack_step hlt HP.out HC.out), hid (by rw [u8cells_append]; simpa [u8cells] using HO4.out), HB4.out⟩
              case measure => simp [intOf]; omega
          · have HC := hid (cmd_alone HA.out HBD.out hc1 hb2)
            have ht2 : decide ((2 : Int) ≤ (b : Int)) = false := decide_eq_false (by omega)
            have hkk : (0 : Int) ≤ (k : Int) := Int.natCast_nonneg _
            have hkl : (k : Int) < (xs.length : Int) := by omega
            clear hc1
            obtain ⟨x, hx⟩ : ∃ x, x = xs.getD k [] := ⟨_, rfl⟩
            obtain ⟨hl, be, rfl, hr⟩ := HE.out k x (by rw [hx, List.getD, List.getElem?_eq_getElem hlt]; rfl)
            have HXR := hid (show right x = true by rw [hx]; exact HRT.out _ (by rw [List.getD, List.getElem?_eq_getElem hlt]; exact List.getElem_mem _))
            have HPL := hid (prev_len H14.out hk)
            have HR := hid hr
            have hsz : (Try.prog.info? 43).map (·.size) = some (icells x).length := by rw [icells_len, hl]; exact size75
            have hu75 := Try.underlying43
            rw [← hx] at HC
            have HHX := hid hx
            have HLA := hid (aloneOf_len (prev xs k) x)
            have HLM : Hid (out.length + (aloneOf (prev xs k) x).length ≤ maxLen) := hid (by have := HLA.out; unfold maxLen; omega)
            have HLN : Hid ((out.length + (aloneOf (prev xs k) x).length) * 1 ≤ 140737488355328) := hid (by have := HLA.out; omega)
            have HSZ : Hid (∀ W, Below w1.heap.size w1 W → w1.heap.size ≤ W.heap.size) := hid (fun _ h => h.size)
            clear hx hl hr
            refine hgo _ (fun ha0 hba => ?_) (fun ha1 => ?_)
            all_goals
              clear hgo
              go_wp2_with fail
              (try clear hba)
              (try clear ha0)
              (try clear ha1)
              clear ht2
              go_region_held3 (fun w' => w'.rangeAt be (k * 14) (icells x) ∧ Below w1.heap.size w1 w')
                (first
                  | assumption
                  | (exact ⟨rangeAt_below HR.out HB3.out.drew, HB3.out.drew⟩)
                  | (refine ⟨rangeAt_below HR.out (Below.step (And.right (by assumption)) hb), Below.step (And.right (by assumption)) hb⟩)
                  | (refine ⟨rangeAt_below HR.out (Below.grown (And.right (by assumption)) hgrow (HSZ.out _ (And.right (by assumption))) (fun q hq => (HO5.out.lt q hq).1)), Below.grown (And.right (by assumption)) hgrow (HSZ.out _ (And.right (by assumption))) (fun q hq => (HO5.out.lt q hq).1)⟩)
                  | trace_state)
                ((first
                  | (go_at_call 15; go_loud (refine (before_any _ xs _ k _ (HE.out.below (And.right (by assumption))) (by omega) (by omega)).mono ?_; rintro e w4 ⟨rfl, hb⟩; have HO4 := hid (ownsRow_below (w := w3.drew) HO3.out hb)))
                  | (go_at_call 14; go_loud (refine (alone_any (prev xs k) x _ HPL.out HXR.out).mono ?_; rintro e w5 ⟨v5, rfl, ho5, hb⟩; obtain ⟨g5, cp5, rfl, hg5, _⟩ := own_some ho5 (by have := HLA.out; omega); have HN5 := hid ho5; have HO5 := hid (ownsRow_below HO4.out hb)))
                  | ((refine step_append_lies _ (by rfl) _ _ _ (by rfl) w1.heap.size 5 i0 _ 1 1 Try.underlying24 HI.out HZ0.out HZ1.out HZ2.out rfl (by omega) u6 out.length _ (by rfl) HO5.out ⟨g5, 0, none⟩ (aloneOf (prev xs k) x).length cp5 (u8cells (aloneOf (prev xs k) x)) (by rfl) (by rw [u8cells_len, Nat.mul_one]) (fun j u hj => by rw [add_at _ rfl, Nat.zero_add]; exact own_at HN5.out hj) (u8cells_one _) (by have := HLA.out; omega) HLM.out HLN.out (HSZ.out _ (And.right (by assumption))) w5.heap.size rfl ?_; intro gg cpg w6 hown hgrow hat hltg))))
              have HOw := hid hown
              have HBw : Hid (Below w1.heap.size w1 w6) := hid (And.right (by assumption))
              have HLE : Hid (out.length + (aloneOf (prev xs k) x).length ≤ 17 * (k + 1)) := hid (by have := HLA.out; omega)
              clear hown hgrow hat hltg
              go_wp2
              go_roundw
              case rel => exact ⟨k + 1, out ++ aloneOf (prev xs k) x, by omega, by go_num, by rw [List.length_append]; exact HLE.out, hid (pack_step hlt HP.out HC.out), hid (by rw [u8cells_append, List.length_append]; exact HOw.out), HBw.out⟩
              case measure => simp [intOf]; omega
      · obtain rfl : k = xs.length := by omega
        have HPE : Hid (packed xs = out ++ [0]) := hid (by rw [← HP.out, packFrom_end (by omega)])
        have hs := HB.out.size
        have HLM : Hid (out.length + 1 ≤ maxLen) := hid (by unfold maxLen; omega)
        go_wp2_with (first | (at_builtin; refine wpList_append_own _ rfl _ _ 24 rfl w1.heap.size 5 i0 _ 1 1 Try.underlying24 HI.out HZ0.out HZ1.out HZ2.out rfl (by decide) u6 out.length _ rfl (HO.out.alloc _) _ 1 1 [.int .u8 0] rfl rfl (news_u8 _ _ _) (by simp [Value.oneCell']) HLM.out (by omega) (by simp; omega) ?_))
        intro v' w4 hown hg4 _
        have HO4 := hid hown
        have HB4 := hid (Below.grown (Below.grow HB.out (.cells #[.int .u8 0] 5)) hg4 (by simp; omega) (fun q hq => (HO.out.lt q hq).1))
        clear hown hg4 HO HB
        go_wp2
        go_ret2
        refine packs_yes HOK.out ?_ (HB1.out.trans (HB4.out.mono hs1))
        rw [HPE.out, u8cells_append, List.length_append]
        exact owned_base HO4.out hs1
end Go.Proofs.Ytmogoaceangblaa
