/- chiplog.read's commands: which of the four is called, what it leaves, and where it leaves the tape. -/
import Derived.Test.YtmogoaceangblaaRead1
namespace Go.Proofs.Ytmogoaceangblaa
open Go.RowKit

theorem someL_at (b : List Int) (mask m : Nat) : ∀ (at_ : Nat) (x : List Int) (n : Nat) (p : Nat × List Int × Nat), at_ ≤ b.length → someL b mask m at_ x n = .inr p → at_ ≤ p.1 ∧ p.1 ≤ b.length := by
  induction m with
  | zero => intro at_ x n p h e; simp only [someL] at e; cases e; exact ⟨Nat.le_refl _, h⟩
  | succ m ih =>
    intro at_ x n p h e
    rw [someL] at e
    split at e
    · cases hw : writeL b at_ x (13 - m) with
      | inl er => rw [hw] at e; cases e
      | inr q =>
        have hl := writeL_len hw
        rw [hw] at e
        have := ih _ _ _ _ (show q.1 ≤ b.length by omega) e
        omega
    · exact ih _ _ _ _ h e
theorem cmdL_at {b : List Int} {c : Int} {at_ : Nat} {log : List (List Int)} {cyc : List Int} {s : St} (h : cmdL b c at_ log cyc = .inr s) (ha : at_ ≤ b.length) : at_ ≤ s.1 ∧ s.1 ≤ b.length := by
  unfold cmdL at h
  split at h
  · split at h
    · cases h
    · cases h; exact ⟨Nat.le_refl _, ha⟩
  · split at h
    · split at h
      · cases h
      · split at h
        · cases h
        · rename_i a x hw
          have hl := writeL_len hw
          split at h
          · cases h
          · cases h; simp only at hl ⊢; omega
    · split at h
      · unfold manyL at h
        split at h
        · rename_i lo hi h1 h2
          have := (List.getElem?_eq_some_iff.1 h2).1
          split at h
          · cases h
          · split at h
            · cases h
            · rename_i a x n hs
              have := someL_at b _ _ _ _ _ _ (by omega) hs
              split at h
              · cases h
              · cases h; simp only at this ⊢; omega
        · cases h
      · split at h
        · cases h
        · rename_i d hd
          have := (List.getElem?_eq_some_iff.1 hd).1
          split at h
          · cases h
          · split at h
            · cases h
            · cases h; simp only; omega
theorem cmd_any (w : World) (t : Nat) (A : Option Addr) (cc : Nat) (b : List Int) (at_ : Nat) (log : List (List Int)) (cyc : List Int) (vl vc : Value) (c : Int)
    (h : TapeV w t (.slice A b.length cc) at_ log cyc vl vc) (hR : Reads w t A b) (hat : at_ ≤ b.length) (h0 : 0 ≤ c) (h1 : c ≤ 255) :
    Calls Try.prog (doAt (idxOf c)) #[.pointer (some ⟨t, 0, none⟩), .int .i64 c] w (TapeTo w t (.slice A b.length cc) vl vc (cmdL b c at_ log cyc)) := by
  obtain ⟨n, rfl⟩ : ∃ n : Nat, c = (n : Int) := ⟨c.toNat, by omega⟩
  by_cases g1 : n ≤ 127
  · have e : cmdL b n at_ log cyc = atS at_ (runsL (lastOf log) n log cyc) := by
      unfold cmdL atS; rw [if_pos (by omega)]; simp only [Int.toNat_natCast]
      split <;> rename_i hh <;> rw [hh]
    have e2 : idxOf (n : Int) = 0 := by unfold idxOf; rw [if_pos (by omega)]
    rw [e, e2]
    exact truns_any w t A cc b at_ log cyc vl vc n h g1
  · by_cases g2 : n ≤ 191
    · have e2 : idxOf (n : Int) = 1 := by unfold idxOf; rw [if_neg (by omega), if_pos (by omega)]
      rw [e2]
      by_cases g3 : 142 ≤ n
      · have e : cmdL b n at_ log cyc = .inl 9 := by
          unfold cmdL; rw [if_neg (by omega), if_pos (by omega), if_pos (by omega)]
        rw [e]
        exact tsingles_no w t n g3 _
      · obtain ⟨r, rfl⟩ : ∃ r, n = 128 + r := ⟨n - 128, by omega⟩
        have e : cmdL b ((128 + r : Nat) : Int) at_ log cyc = singleS b at_ log cyc r := by
          unfold cmdL singleS; rw [if_neg (by omega), if_pos (by omega), if_neg (by omega), show (((128 + r : Nat) : Int) - 128).toNat = r by omega]
          cases writeL b at_ (lastOf log) r with
          | inl er => rfl
          | inr p => rfl
        rw [e, show ((128 + r : Nat) : Int) = 128 + (r : Int) by omega]
        exact tsingles_any w t A cc b at_ log cyc vl vc r h hR hat (by omega)
    · by_cases g4 : n ≤ 192
      · have e2 : idxOf (n : Int) = 2 := by unfold idxOf; rw [if_neg (by omega), if_neg (by omega), if_pos (by omega)]
        have e : cmdL b n at_ log cyc = manyL b at_ log cyc := by
          unfold cmdL; rw [if_neg (by omega), if_neg (by omega), if_pos (by omega)]
        rw [e2, e]
        exact tmanys_any w t A cc b at_ log cyc vl vc n h hR hat
      · have e2 : idxOf (n : Int) = 3 := by unfold idxOf; rw [if_neg (by omega), if_neg (by omega), if_neg (by omega)]
        have e : cmdL b n at_ log cyc = repeatS b at_ log cyc n := by
          unfold cmdL repeatS atS; rw [if_neg (by omega), if_neg (by omega), if_neg (by omega)]
          cases b[at_]? with
          | none => rfl
          | some d =>
            simp only
            split
            · rfl
            · cases repsL d.toNat ((n : Int) - 191).toNat 18 log cyc with
              | inl er => rfl
              | inr p => rfl
        rw [e2, e]
        exact trepeats_any w t A cc b at_ log cyc vl vc n h hR hat (by omega) (by omega)
end Go.Proofs.Ytmogoaceangblaa
