/- A packed log is read as it was, whatever bytes follow: the whole. In plain lists. -/
import Derived.Test.YtmogoaceangblaaReadPack
import Derived.Test.YtmogoaceangblaaCycles
namespace Go.Proofs.Ytmogoaceangblaa
open Go.RowKit

theorem prev_length {xs : List (List Int)} (h14 : ∀ z ∈ xs, z.length = 14) {i : Nat} (hi : i ≤ xs.length) : (prev xs i).length = 14 := by
  unfold prev
  split
  · simp
  · rw [List.getD, List.getElem?_eq_getElem (by omega)]
    exact h14 _ (List.getElem_mem _)
theorem maskL_ne (x y : List Int) (hx : x.length = 14) (hy : y.length = 14) (h : x ≠ y) : maskL (diffs x y) ≠ 0 := by
  intro h0
  apply h
  apply List.ext_getElem (by omega)
  intro k h1 h2
  have hb := maskL_bit x y 14 k
  have h0' : maskL (diffsTo x y 14) = 0 := h0
  rw [h0', Nat.zero_testBit] at hb
  have hb' := (decide_eq_false_iff_not.1 hb.symm)
  have : x.getD k 0 = y.getD k 0 := by
    apply Classical.byContradiction
    intro hne
    exact hb' ⟨by omega, hne⟩
  rwa [List.getD, List.getD, List.getElem?_eq_getElem h1, List.getElem?_eq_getElem h2] at this

/-- What a command reads to. -/
def CmdOk (xs : List (List Int)) (B : List Int) (p i : Nat) (bytes : List Int) (k : Nat) : Prop :=
  ∃ c rest, bytes = c :: rest ∧ c ≠ 0 ∧ ∀ cyc, ∃ cs : List Int, cmdL B c (p + 1) (xs.take i) cyc = .inr (p + bytes.length, xs.take (i + k), cyc ++ cs) ∧ cs.length = k ∧ ∀ c ∈ cs, 4 ≤ c ∧ c ≤ 104
theorem rcmd_run (xs : List (List Int)) (B : List Int) (p i : Nat) (h4 : xs.length ≤ 4000) (hi : i < xs.length) (h0 : 0 < sameLen xs i) : CmdOk xs B p i [(sameLen xs i : Int)] (sameLen xs i) := by
  have h7 := sameLen_le xs i
  have hb := sameLen_bound xs i (by omega)
  refine ⟨_, [], rfl, by omega, fun cyc => ⟨List.replicate (sameLen xs i) 6, ?_, by simp, ?_⟩⟩
  · unfold cmdL
    rw [if_pos (by omega), lastOf_take xs i (by omega), Int.toNat_natCast]
    have hl : (xs.take i).length = i := by simp; omega
    rw [runsL_ok _ _ _ _ (by omega)]
    simp only
    rw [take_run xs i _ _ hb]
    · simp
    · intro n hn
      have := upto_all (sameAs xs i) 127 0 n (Nat.zero_le _) hn
      unfold sameAs at this
      simp only [Bool.and_eq_true, beq_iff_eq] at this
      exact this.2
  · intro c hc
    have := List.eq_of_mem_replicate hc
    omega
theorem rcmd_rep (xs : List (List Int)) (B : List Int) (p i : Nat) (h4 : xs.length ≤ 4000) (hi : i < xs.length) (h2 : 2 ≤ (bestTo xs i (min 255 i)).1)
    (hB : B[p + 1]? = some ((bestTo xs i (min 255 i)).2 : Int)) : CmdOk xs B p i [((191 + (bestTo xs i (min 255 i)).1 : Nat) : Int), ((bestTo xs i (min 255 i)).2 : Int)] (bestTo xs i (min 255 i)).1 := by
  obtain ⟨h1, hr⟩ := bestTo_spec xs i (min 255 i) (by omega)
  have hle := bestTo_le xs i (min 255 i)
  have hbd := bestTo_bound xs i (min 255 i) (by omega)
  generalize (bestTo xs i (min 255 i)).1 = n at *
  generalize (bestTo xs i (min 255 i)).2 = d at *
  have hl : (xs.take i).length = i := by simp; omega
  refine ⟨_, _, rfl, by omega, fun cyc => ?_⟩
  obtain ⟨cs, hc1, hc2, hc3⟩ := repsL_ok xs d h1 h4 n 18 i cyc hbd (by omega) (fun m hm => by
    rw [hr] at hm
    have := upto_all (repAs xs i d) 64 0 m (Nat.zero_le _) hm
    unfold repAs at this
    simp only [Bool.and_eq_true, beq_iff_eq] at this
    exact this.2)
  refine ⟨cs, ?_, hc2, fun c hc => by rcases hc3 c hc with rfl | rfl <;> omega⟩
  unfold cmdL
  rw [if_neg (by omega), if_neg (by omega), if_neg (by omega), hB]
  simp only
  rw [hl, if_neg (by omega), Int.toNat_natCast, show (((191 + n : Nat) : Int) - 191).toNat = n by omega, hc1]
  simp
theorem rcmd_alone (xs : List (List Int)) (B : List Int) (p i : Nat) (h4 : xs.length ≤ 4000) (h14 : ∀ z ∈ xs, z.length = 14) (hi : i < xs.length) (hne : prev xs i ≠ xs.getD i [])
    (hB : ∀ j v, (aloneOf (prev xs i) (xs.getD i []))[j]? = some v → B[p + j]? = some v) : CmdOk xs B p i (aloneOf (prev xs i) (xs.getD i [])) 1 := by
  have hx := prev_length h14 (i := i) (by omega)
  have hy : (xs.getD i []).length = 14 := by rw [List.getD, List.getElem?_eq_getElem hi]; exact h14 _ (List.getElem_mem _)
  have hl : (xs.take i).length = i := by simp; omega
  have hlast := lastOf_take xs i (by omega)
  have hput : ∀ (cyc : List Int) (c : Int), putL (xs.take i) cyc (xs.getD i []) c = .inr (xs.take (i + 1), cyc ++ [c]) := by
    intro cyc c
    unfold putL; rw [if_neg (by omega), take_snoc' _ _ _ hi]
  have hmn := maskL_ne _ _ hx hy hne
  have hup := ups_diffs (prev xs i) (xs.getD i []) 14
  have hdl := diffsTo_le (prev xs i) (xs.getD i []) 14
  have hsome := fun q => someL_ok B (prev xs i) (xs.getD i []) q hx hy
  have hone := fun r hr => one_of_diffs (prev xs i) (xs.getD i []) hx hy r hr
  generalize prev xs i = x at *
  generalize xs.getD i [] = y at *
  unfold aloneOf at hB ⊢
  by_cases h1 : (diffs x y).length = 1
  · rw [if_pos h1] at hB ⊢
    obtain ⟨r, hr⟩ := List.length_eq_one_iff.1 h1
    have hr14 := hup.2.1 r (by show r ∈ diffs x y; rw [hr]; simp)
    obtain ⟨n, rfl⟩ : ∃ n : Nat, r = n := ⟨r.toNat, by omega⟩
    obtain ⟨hs, hn⟩ := hone n (by omega) hr
    rw [hr] at hB ⊢
    simp only [List.getD_cons_zero, Int.toNat_natCast] at hB ⊢
    have hB1 := hB 1 _ rfl
    refine ⟨_, _, rfl, by omega, fun cyc => ⟨[12], ?_, rfl, by simp⟩⟩
    unfold cmdL
    rw [if_neg (by omega), if_pos (by omega), if_neg (by omega), hlast, show (128 + (n : Int) - 128).toNat = n by omega]
    have hw : writeL B (p + 1) x n = .inr (p + 1 + 1, y) := by
      unfold writeL
      rw [hB1]
      simp only
      rw [if_neg (fun h => hn h.symm), hs]
    rw [hw]
    simp only
    rw [hput]
    rfl
  · rw [if_neg h1] at hB ⊢
    have hb1 := hB 1 _ rfl
    have hb2 := hB 2 _ rfl
    have hm : maskL (diffs x y) < 16384 := hup.1
    have hr0 := hup.2.1
    have hsm := hsome (p + 3) (fun j r hj => by
      have := hB (j + 3) (y.getD r.toNat 0) (by simp [hj])
      rwa [show p + (j + 3) = p + 3 + j by omega] at this) 14 (Nat.le_refl _)
    simp only [Nat.sub_self, diffsTo, List.length_nil, Nat.add_zero, List.take_zero, List.drop_zero, List.nil_append] at hsm
    refine ⟨_, _, rfl, by decide, fun cyc => ⟨[20 + 6 * ((diffs x y).length : Int)], ?_, rfl, ?_⟩⟩
    · unfold cmdL
      rw [if_neg (by decide), if_neg (by decide), if_pos (by decide)]
      unfold manyL
      rw [hb1, show p + 1 + 1 = p + 2 by omega, hb2]
      simp only
      have hmm : ((maskL (diffs x y) % 256 : Nat) : Int) + 256 * ((maskL (diffs x y) / 256 : Nat) : Int) = (maskL (diffs x y) : Int) := by omega
      rw [hmm, if_neg (by omega), Int.toNat_natCast, hlast, show p + 1 + 2 = p + 3 by omega, hsm]
      simp only
      rw [hput]
      simp
      omega
    · intro c hc
      have : (diffs x y).length ≤ 14 := hdl
      simp at hc
      omega
theorem rcmd_ok (xs : List (List Int)) (B : List Int) (p i : Nat) (h4 : xs.length ≤ 4000) (h14 : ∀ z ∈ xs, z.length = 14) (hi : i < xs.length)
    (hB : ∀ j v, (cmdAt xs i).1[j]? = some v → B[p + j]? = some v) : CmdOk xs B p i (cmdAt xs i).1 (cmdAt xs i).2 := by
  unfold cmdAt at hB ⊢
  split
  · rename_i h
    exact rcmd_run xs B p i h4 hi h.1
  · rename_i h
    rw [if_neg h] at hB
    split
    · rename_i h2
      rw [if_pos h2] at hB
      exact rcmd_rep xs B p i h4 hi h2 (hB 1 _ rfl)
    · rename_i h2
      rw [if_neg h2] at hB
      refine rcmd_alone xs B p i h4 h14 hi ?_ hB
      intro e
      have h0 : sameAs xs i 0 = true := by
        unfold sameAs
        rw [Nat.add_zero, e]
        simp [hi]
      have := upto_zero (sameAs xs i) 127 0 h0 (by decide)
      have h3 : 0 < sameLen xs i := this
      by_cases h5 : (bestTo xs i (min 255 i)).1 ≤ sameLen xs i
      · exact h ⟨h3, h5⟩
      · omega
theorem packFrom_pos (xs : List (List Int)) (i : Nat) : 1 ≤ (packFrom xs i).length := by
  by_cases h : i < xs.length
  · rw [packFrom_more h, List.length_append]; have := (cmdAt_len xs i).1; omega
  · rw [packFrom_end h]; simp
theorem read_packed (xs : List (List Int)) (B more : List Int) (h4 : xs.length ≤ 4000) (h14 : ∀ z ∈ xs, z.length = 14) : ∀ (f p i : Nat) (cyc : List Int), i ≤ xs.length → (packFrom xs i).length ≤ f → B.drop p = packFrom xs i ++ more →
    ∃ cs : List Int, readL B f p (xs.take i) cyc = .inr (xs, cyc ++ cs, p + (packFrom xs i).length) ∧ cs.length = xs.length - i ∧ ∀ c ∈ cs, 4 ≤ c ∧ c ≤ 104 := by
  intro f
  induction f with
  | zero => intro p i cyc _ hf _; have := packFrom_pos xs i; omega
  | succ f ih =>
    intro p i cyc hi hf hB
    have hat : ∀ j v, (packFrom xs i)[j]? = some v → B[p + j]? = some v := by
      intro j v hj
      have hlt := (List.getElem?_eq_some_iff.1 hj).1
      rw [← List.getElem?_drop, hB, List.getElem?_append_left hlt, hj]
    by_cases h : i < xs.length
    · rw [packFrom_more h] at hB hat hf ⊢
      obtain ⟨c, rest, hb, hc0, hcmd⟩ := rcmd_ok xs B p i h4 h14 h (fun j v hj => hat j v (by rw [List.getElem?_append_left (List.getElem?_eq_some_iff.1 hj).1]; exact hj))
      obtain ⟨cs, h1, h2, h3⟩ := hcmd cyc
      have hpos := cmdAt_pos xs i
      have hbnd := cmdAt_bound xs i h
      have hlen := (cmdAt_len xs i).1
      have hB2 : B.drop (p + (cmdAt xs i).1.length) = packFrom xs (i + (cmdAt xs i).2) ++ more := by
        rw [← List.drop_drop, hB, List.append_assoc, List.drop_left]
      rw [List.length_append] at hf
      obtain ⟨cs2, e1, e2, e3⟩ := ih (p + (cmdAt xs i).1.length) (i + (cmdAt xs i).2) (cyc ++ cs) hbnd (by omega) hB2
      have hBp : B[p]? = some c := by have := hat 0 c (by rw [hb]; rfl); simpa using this
      refine ⟨cs ++ cs2, ?_, by rw [List.length_append, h2, e2]; omega, fun c hc => ?_⟩
      · rw [readL, hBp]
        simp only
        rw [if_neg hc0, h1]
        simp only
        rw [e1, List.length_append, List.append_assoc, Nat.add_assoc]
      · rcases List.mem_append.1 hc with h | h
        · exact h3 c h
        · exact e3 c h
    · have hie : i = xs.length := by omega
      rw [packFrom_end h] at hat ⊢
      have hBp : B[p]? = some 0 := by have := hat 0 0 rfl; simpa using this
      refine ⟨[], ?_, by simp; omega, by simp⟩
      rw [readL, hBp]
      simp only [if_true]
      rw [hie]
      simp
theorem readAll_packed (xs : List (List Int)) (more : List Int) (h4 : xs.length ≤ 4000) (h14 : ∀ z ∈ xs, z.length = 14) (hm : (packed xs ++ more).length ≤ 400000) :
    ∃ cs : List Int, readAll (packed xs ++ more) = .inr (xs, cs, (packed xs).length) ∧ cs.length = xs.length ∧ ∀ c ∈ cs, 4 ≤ c ∧ c ≤ 104 := by
  obtain ⟨cs, h1, h2, h3⟩ := read_packed xs (packed xs ++ more) more h4 h14 ((packed xs ++ more).length + 1) 0 0 [] (Nat.zero_le _) (by rw [List.length_append]; unfold packed; omega) rfl
  refine ⟨cs, ?_, by omega, h3⟩
  unfold readAll
  rw [if_neg (by omega)]
  simpa [packed] using h1
theorem packed_length (xs : List (List Int)) : ∀ (n i : Nat), xs.length - i ≤ n → 1 ≤ (packFrom xs i).length ∧ (packFrom xs i).length ≤ 17 * (xs.length - i) + 1 := by
  intro n
  induction n with
  | zero => intro i h; rw [packFrom_end (by omega)]; simp
  | succ n ih =>
    intro i h
    by_cases hi : i < xs.length
    · have h1 := cmdAt_pos xs i
      have h2 := cmdAt_bound xs i hi
      have h3 := (cmdAt_len xs i).2
      have h4 := ih (i + (cmdAt xs i).2) (by omega)
      rw [packFrom_more hi, List.length_append]
      omega
    · rw [packFrom_end hi]; simp
/-- The cycles with the end's 4. -/
theorem cycEnd_ok (cs : List Int) (h3 : ∀ c ∈ cs, 4 ≤ c ∧ c ≤ 104) : (cycEnd cs).length = max 1 cs.length ∧ ∀ (j : Nat) (c : Int), (cycEnd cs)[j]? = some c → 4 ≤ c ∧ c ≤ 108 ∧ (j + 1 < (cycEnd cs).length → c ≤ 104) := by
  unfold cycEnd
  split
  · rename_i h
    refine ⟨by rw [h]; rfl, fun j c hj => ?_⟩
    obtain ⟨hl, hj⟩ := List.getElem?_eq_some_iff.1 hj
    simp at hl
    subst hl
    simp at hj
    subst hj
    omega
  · rename_i h
    refine ⟨by rw [List.length_set]; omega, fun j c hj => ?_⟩
    rw [List.length_set]
    rw [List.getElem?_set] at hj
    have hb : 4 ≤ cs.getD (cs.length - 1) 0 ∧ cs.getD (cs.length - 1) 0 ≤ 104 := by
      rw [List.getD, List.getElem?_eq_getElem (by omega)]
      exact h3 _ (List.getElem_mem _)
    split at hj
    · rename_i hjl
      rw [if_pos (by omega)] at hj
      have := Option.some.inj hj
      rw [IntKind.wrap_i64] at this
      omega
    · have := h3 c (List.mem_of_getElem? hj)
      omega

/-! Bytes in range. -/
theorem right_range {z : List Int} (h : right z = true) : z.length = 14 ∧ ∀ v ∈ z, 0 ≤ v ∧ v < 256 := by
  unfold right at h
  simp only [Bool.and_eq_true, beq_iff_eq, List.all_eq_true] at h
  refine ⟨h.1, fun v hv => ?_⟩
  have := h.2 v hv
  unfold inr at this
  simp at this
  omega
theorem packFrom_range {xs : List (List Int)} (h : ∀ z ∈ xs, right z = true) : ∀ (n i : Nat), xs.length - i ≤ n → ∀ v ∈ packFrom xs i, 0 ≤ v ∧ v < 256 := by
  have hg : ∀ k r, 0 ≤ (xs.getD k []).getD r 0 ∧ (xs.getD k []).getD r 0 < 256 := by
    intro k r
    by_cases hk : k < xs.length
    · rw [List.getD, List.getD, List.getElem?_eq_getElem (l := xs) hk]
      simp only [Option.getD_some]
      by_cases hr : r < xs[k].length
      · rw [List.getElem?_eq_getElem hr]; exact (right_range (h _ (List.getElem_mem hk))).2 _ (List.getElem_mem hr)
      · rw [List.getElem?_eq_none (by omega)]; simp
    · rw [List.getD, List.getD, List.getElem?_eq_none (l := xs) (by omega)]; simp
  intro n
  induction n with
  | zero => intro i hi v hv; rw [packFrom_end (by omega)] at hv; simp at hv; omega
  | succ n ih =>
    intro i hi v hv
    by_cases hl : i < xs.length
    · rw [packFrom_more hl] at hv
      rcases List.mem_append.1 hv with hv | hv
      · unfold cmdAt at hv
        split at hv
        · have := sameLen_le xs i
          simp at hv; omega
        · split at hv
          · have := bestTo_le xs i (min 255 i)
            simp at hv; omega
          · unfold aloneOf at hv
            have hup := ups_diffs (prev xs i) (xs.getD i []) 14
            have hm : maskL (diffs (prev xs i) (xs.getD i [])) < 16384 := hup.1
            simp only at hv
            split at hv
            · rename_i h1
              obtain ⟨r, hr⟩ := List.length_eq_one_iff.1 h1
              have hr14 := hup.2.1 r (by show r ∈ diffs _ _; rw [hr]; simp)
              have hgr := hg i r.toNat
              rw [hr] at hv
              simp only [List.getD_cons_zero, List.mem_cons, List.not_mem_nil, or_false] at hv
              rcases hv with e | e <;> rw [e] <;> omega
            · simp only [List.cons_append, List.nil_append, List.mem_cons, List.mem_map] at hv
              rcases hv with e | e | e | ⟨r, _, e⟩
              · omega
              · omega
              · omega
              · have := hg i r.toNat; rw [← e]; exact this
      · have := cmdAt_pos xs i
        exact ih _ (by omega) v hv
    · rw [packFrom_end hl] at hv; simp at hv; omega
theorem packed_range {xs : List (List Int)} (h : ∀ z ∈ xs, right z = true) : ∀ v ∈ packed xs, 0 ≤ v ∧ v < 256 := packFrom_range h _ 0 (Nat.le_refl _)
end Go.Proofs.Ytmogoaceangblaa
