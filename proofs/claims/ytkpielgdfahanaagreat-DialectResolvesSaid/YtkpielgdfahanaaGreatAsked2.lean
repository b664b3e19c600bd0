/- Table.asked for every cell and memory. -/
import Derived.Test.YtkpielgdfahanaaGreatAsked
import Derived.Test.YtkpielgdfahanaaGreatIndex
namespace Go.Proofs.YtkpielgdfahanaaGreat
open Go.RowKit Go.Maps
/-- What a cell's operations and memory are. -/
def colX (d vc va : Int) (M : List Int) : St := if 0 < vc then colE (d == 3) vc va (st0 M) else st0 M
def effX (d E P : Int) (s : St) : St := if 0 < E then runE (dialG d (letN E)) (s.put P) else s
def askX (d note e p vc va : Int) (M : List Int) : St :=
  if d = 5 then effX 5 (lastR note e p (st0 M)).1 (lastR note e p (st0 M)).2 (lastS note e p (st0 M)) else effX d e p (colX d vc va M)
/-- A cell's numbers, as a dialect has them. -/
structure CellOk (d note inst vc va e p : Int) : Prop where
  e : 0 ≤ e ∧ e ≤ 36
  p : 0 ≤ p ∧ p ≤ 255
  v : 0 ≤ vc ∧ vc ≤ volC d
  a : 0 ≤ va ∧ va ≤ 99
theorem Mid.of {n : Nat} {s t : St} (h : St.After n s t) (hn : s.O.length + n ≤ 10) : Mid t := ⟨h.len, h.slots, by have := h.O; omega⟩
theorem lastR_ok {note e p : Int} {M : List Int} (m : MemOk M) (he : 0 ≤ e ∧ e ≤ 36) (hp : 0 ≤ p ∧ p ≤ 255) : (0 ≤ (lastR note e p (st0 M)).1 ∧ (lastR note e p (st0 M)).1 ≤ 36) ∧ 0 ≤ (lastR note e p (st0 M)).2 ∧ (lastR note e p (st0 M)).2 ≤ 255 := by
  have h1 : 0 ≤ (st0 M).eff ∧ (st0 M).eff ≤ 36 := m.eff
  have h2 : 0 ≤ (st0 M).par ∧ (st0 M).par ≤ 255 := m.par
  unfold lastR lastQ
  split <;> split <;> (constructor <;> simp <;> omega)
theorem setEP_slot {M : List Int} (hM : M.length = 26) (x y : Int) {k : Nat} (hk : k < 24) : ((M.set 24 x).set 25 y).getD k 0 = M.getD k 0 := by
  rw [St.slot_set (by simp [hM]), if_neg (by omega), St.slot_set (by omega), if_neg (by omega)]
theorem lastS_mid (note e p : Int) {M : List Int} (m : MemOk M) : Mid (lastS note e p (st0 M)) := by
  have h0 : Mid (st0 M) := ⟨m.len, m.slots, Nat.zero_le _⟩
  have h1 : ∀ x y, Mid ((st0 M).setEP x y) := fun x y => ⟨by simp [St.setEP, st0, m.len], fun k hk => by
    show 0 ≤ ((M.set 24 x).set 25 y).getD k 0 ∧ ((M.set 24 x).set 25 y).getD k 0 ≤ 255
    rw [setEP_slot m.len x y hk]; exact m.slots k hk, Nat.zero_le _⟩
  unfold lastS
  split
  · exact h1 _ _
  split
  · exact h0
  split
  · exact h1 _ _
  · exact h0
theorem asked_any (M : List Int) (d note inst vc va e p : Int) (m : MemOk M) (d1 : 1 ≤ d) (d6 : d ≤ 6) (c : CellOk d note inst vc va e p) (w : World) :
    Calls Tryz.prog 38 #[.agg #[.int .i64 d, .map none], .agg (memV M), .agg #[.int .i64 note, .int .i64 inst, .int .i64 vc, .int .i64 va, .int .i64 e, .int .i64 p]] w (Askd d (askX d note e p vc va M) w) := by
  have hm0 : Mid (st0 M) := ⟨m.len, m.slots, Nat.zero_le _⟩
  unfold askX effX colX
  by_cases hd : d = 5
  · subst hd
    have hv : ¬ 0 < vc := by have := c.v.2; unfold volC at this; simp at this; omega
    obtain ⟨hq1, hq2⟩ := lastR_ok (note := note) m c.e c.p
    rw [if_pos rfl]
    obtain ⟨⟨E, P⟩, hq⟩ : ∃ q, lastR note e p (st0 M) = q := ⟨_, rfl⟩
    rw [hq] at hq1 hq2
    rw [hq]
    simp only at hq1 hq2 ⊢
    by_cases hE : 0 < E
    · rw [if_pos hE]
      by_cases hG : dialG 5 (letN E) = .nil
      · exact asked_5n M 5 note inst vc va e p m c.e.1 c.e.2 c.p.1 c.p.2 d1 d6 hv rfl E P hq hq1.1 hq1.2 hq2.1 hq2.2 hE hG (lastS_mid note e p m) w
      · exact asked_5f M 5 note inst vc va e p m c.e.1 c.e.2 c.p.1 c.p.2 d1 d6 hv rfl E P hq hq1.1 hq1.2 hq2.1 hq2.2 hE hG (lastS_mid note e p m) w
    · rw [if_neg hE]
      exact asked_5z M 5 note inst vc va e p m c.e.1 c.e.2 c.p.1 c.p.2 d1 d6 hv rfl E P hq hq1.1 hq1.2 hq2.1 hq2.2 hE w
  · rw [if_neg hd]
    have hd5 : (d == 5) = false := beq_false hd
    by_cases hv : 0 < vc
    · rw [if_pos hv]
      have hv10 : vc ≤ 10 := by have := c.v.2; unfold volC at this; split at this <;> (try split at this) <;> (try split at this) <;> omega
      have hmid : Mid (colE (d == 3) vc va (st0 M)) := Mid.of (colE_left (d == 3) vc va m.ok c.a.1) (by show 0 + 1 ≤ 10; omega)
      by_cases hE : 0 < e
      · rw [if_pos hE]
        by_cases hG : dialG d (letN e) = .nil
        · exact asked_cn M d note inst vc va e p m c.e.1 c.e.2 c.p.1 c.p.2 d1 d6 hv hv10 c.a.1 c.a.2 hd5 hE hG hmid w
        · exact asked_cf M d note inst vc va e p m c.e.1 c.e.2 c.p.1 c.p.2 d1 d6 hv hv10 c.a.1 c.a.2 hd5 hE hG hmid w
      · rw [if_neg hE]
        exact asked_cz M d note inst vc va e p m c.e.1 c.e.2 c.p.1 c.p.2 d1 d6 hv hv10 c.a.1 c.a.2 hd5 hE w
    · rw [if_neg hv]
      by_cases hE : 0 < e
      · rw [if_pos hE]
        by_cases hG : dialG d (letN e) = .nil
        · exact asked_0n M d note inst vc va e p m c.e.1 c.e.2 c.p.1 c.p.2 d1 d6 hv hd5 hE hG hm0 w
        · exact asked_0f M d note inst vc va e p m c.e.1 c.e.2 c.p.1 c.p.2 d1 d6 hv hd5 hE hG hm0 w
      · rw [if_neg hE]
        exact asked_0z M d note inst vc va e p m c.e.1 c.e.2 c.p.1 c.p.2 d1 d6 hv hd5 hE w
end Go.Proofs.YtkpielgdfahanaaGreat
