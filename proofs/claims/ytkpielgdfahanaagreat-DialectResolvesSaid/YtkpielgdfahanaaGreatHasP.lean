/- The reference's has is the program's 'IndexByte >= 0'. -/
import Derived.Test.YtkpielgdfahanaaGreatLetter
import Derived.LoopTactic
/- The reference's has: whether a text has a character. -/
namespace Go.Proofs.YtkpielgdfahanaaGreat
open Go.RowKit Go.Maps

def hasL (l : List UInt8) (c : Int) : Bool := l.any fun b => ((b.toNat : Int) == c)
theorem hasL_hit {l : List UInt8} {c : Int} {k : Nat} (hk : k < l.length) (h : (((l.getD k 0).toNat : Int)) = c) : hasL l c = true := by
  unfold hasL
  rw [List.any_eq_true]
  refine ⟨l[k], List.getElem_mem hk, ?_⟩
  simp [List.getD, List.getElem?_eq_getElem hk] at h
  simp [h]
theorem hasL_miss {l : List UInt8} {c : Int} (h : ∀ j, j < l.length → (((l.getD j 0).toNat : Int)) ≠ c) : hasL l c = false := by
  unfold hasL
  rw [List.any_eq_false]
  intro b hb
  obtain ⟨j, hj, rfl⟩ := List.mem_iff_getElem.1 hb
  have := h j hj
  simp [List.getD, List.getElem?_eq_getElem hj] at this
  simp [this]
set_option maxHeartbeats 1000000 in
theorem has_any (l : List UInt8) (c : Int) (w : World) (hl : l.length ≤ 100) :
    Calls Tryz.prog 27 #[.string ⟨l.toArray⟩, .int .u8 c] w fun e w' => e = .returned (.bool (hasL l c)) ∧ w = w' := by
  have hix : ∀ k : Nat, k < l.length → (Instr.index 9 (.string ⟨l.toArray⟩) (.int .i64 k)).run Tryz.prog w = .ok (.int .u8 ((l.getD k 0).toNat : Int)) w := fun k hk => by
    rw [run_index_string _ _ _ _ _ Tryz.underlying9, dif_pos ⟨by omega, by simp [ByteArray.size]; omega⟩]
    have h1 : ((⟨l.toArray⟩ : ByteArray)[((k : Int)).toNat]'(by simp [ByteArray.size]; omega)) = l[k] := rfl
    rw [h1]
    simp [List.getD, List.getElem?_eq_getElem hk]
  have HIX := hid hix
  clear hix
  go_enter Tryz.func27, Tryz.ntmps27
  go_wp2
  go_loop [5] (fun i => ∃ k : Nat, k ≤ l.length ∧ i = .int .i64 k ∧ Hid (∀ j, j < k → (((l.getD j 0).toNat : Int)) ≠ c)) (fun i => l.length - (intOf i).toNat)
  case atStart => exact ⟨0, Nat.zero_le _, rfl, hid (fun j hj => by omega)⟩
  case round =>
    obtain ⟨k, hk, rfl, HJ⟩ := hrel
    have hsz : (⟨l.toArray⟩ : ByteArray).size = l.length := by simp [ByteArray.size]
    by_cases hlt : k < l.length
    · have hk' := HIX.out k hlt
      have hlt' : (k : Int) < (l.length : Int) := by omega
      by_cases he : (((l.getD k 0).toNat : Int)) = c
      · have H := hid (hasL_hit hlt he)
        have he' := beq_true he
        clear he HJ HIX
        generalize (((l.getD k 0).toNat : Int)) = x at *
        go_wp2
        go_ret
        exact ⟨ret_bool H.out.symm, rfl⟩
      · have H : Hid (∀ j, j < k + 1 → (((l.getD j 0).toNat : Int)) ≠ c) := hid (fun j hj => by
          rcases Nat.lt_or_ge j k with h | h
          · exact HJ.out j h
          · have : j = k := by omega
            subst this; exact he)
        have he' := beq_false he
        clear he HJ HIX
        generalize (((l.getD k 0).toNat : Int)) = x at *
        go_wp2
        go_round
        case rel => exact ⟨k + 1, by omega, by go_num, H⟩
        case measure => simp [intOf]; omega
    · have hge : ¬ (k : Int) < (l.length : Int) := by omega
      have H := hid (hasL_miss (l := l) (c := c) (fun j hj => HJ.out j (by omega)))
      clear HJ HIX
      go_wp2
      go_ret
      exact ⟨ret_bool H.out.symm, rfl⟩
end Go.Proofs.YtkpielgdfahanaaGreat
namespace Go.Proofs.YtkpielgdfahanaaGreat
open Go.RowKit Go.Maps
theorem byte_eq (b : UInt8) (c : Int) (h0 : 0 ≤ c) (h1 : c < 256) : (b == c.toNat.toUInt8) = (((b.toNat : Int)) == c) := by
  have hc : c.toNat < 256 := by omega
  have h2 : (c.toNat.toUInt8).toNat = c.toNat := by
    simp only [Nat.toUInt8, UInt8.toNat_ofNat']
    omega
  by_cases h : b = c.toNat.toUInt8
  · subst h
    have : (((c.toNat.toUInt8).toNat : Int)) = c := by rw [h2]; omega
    rw [this]; simp
  · have h3 : ¬ ((b.toNat : Int)) = c := fun e => h (by
      apply UInt8.toNat_inj.1
      rw [h2]; omega)
    rw [beq_eq_false_iff_ne.2 h, beq_eq_false_iff_ne.2 h3]
theorem hasL_index (c : Int) (h0 : 0 ≤ c) (h1 : c < 256) : ∀ l : List UInt8, hasL l c = decide (0 ≤ Go.Lib.indexByte l c.toNat.toUInt8)
  | [] => by simp [hasL, Go.Lib.indexByte]
  | b :: l => by
    have ih := hasL_index c h0 h1 l
    have hge := Go.Lib.indexByte_ge l c.toNat.toUInt8
    unfold hasL at ih ⊢
    unfold Go.Lib.indexByte
    rw [List.any_cons, ih, ← byte_eq b c h0 h1]
    cases hb : b == c.toNat.toUInt8 with
    | true => simp
    | false =>
      simp only [Bool.false_or, Bool.false_eq_true, if_false]
      by_cases hi : Go.Lib.indexByte l c.toNat.toUInt8 = -1
      · simp [hi]
      · have h5 : (Go.Lib.indexByte l c.toNat.toUInt8 == -1) = false := beq_eq_false_iff_ne.2 hi
        rw [h5]
        simp only [Bool.false_eq_true, if_false]
        rw [decide_eq_true (by omega), decide_eq_true (by omega)]
end Go.Proofs.YtkpielgdfahanaaGreat
