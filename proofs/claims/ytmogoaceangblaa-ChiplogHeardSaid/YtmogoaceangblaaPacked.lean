/- The reference's Packed gives the bytes of the plain list. -/
import Derived.Test.YtmogoaceangblaaAlone
import Derived.Test.YtmogoaceangblaaRefRun
import Derived.StillTactics
import Derived.Maps.AppendAt
namespace Go.Proofs.Ytmogoaceangblaa
open Go.RowKit

theorem pack_step {xs : List (List Int)} {k : Nat} {out o : List Int} {n : Nat} (hk : k < xs.length) (h : out ++ packFrom xs k = packed xs) (hc : cmdAt xs k = (o, n)) : (out ++ o) ++ packFrom xs (k + n) = packed xs := by
  rw [← h, packFrom_more hk, hc, List.append_assoc]
theorem cmd_run {xs : List (List Int)} {k a b d : Nat} (h1 : sameLen xs k = a) (h2 : bestTo xs k (min 255 k) = (b, d)) (h : 0 < a ∧ b ≤ a) : cmdAt xs k = ([(a : Int)], a) := by
  unfold cmdAt; rw [h1, h2, if_pos h]
theorem cmd_rep {xs : List (List Int)} {k a b d : Nat} (h1 : sameLen xs k = a) (h2 : bestTo xs k (min 255 k) = (b, d)) (h : ¬ (0 < a ∧ b ≤ a)) (hb : 2 ≤ b) : cmdAt xs k = ([191 + (b : Int), (d : Int)], b) := by
  unfold cmdAt; rw [h1, h2, if_neg h, if_pos hb]; simp
theorem cmd_alone {xs : List (List Int)} {k a b d : Nat} (h1 : sameLen xs k = a) (h2 : bestTo xs k (min 255 k) = (b, d)) (h : ¬ (0 < a ∧ b ≤ a)) (hb : ¬ 2 ≤ b) : cmdAt xs k = (aloneOf (prev xs k) (xs.getD k []), 1) := by
  unfold cmdAt; rw [h1, h2, if_neg h, if_neg hb]
theorem okLog_all {xs : List (List Int)} (h : okLog xs = true) : ∀ z ∈ xs, right z = true := by
  unfold okLog at h
  rw [Bool.and_eq_true, List.all_eq_true] at h
  exact h.2
theorem LogAt.header_lt {w : World} {A : Option Addr} {xs : List (List Int)} (h : LogAt w A xs) {b off : Nat} (e : A = some ⟨b, off, none⟩) (h0 : 0 < xs.length) : b < w.heap.size := by
  obtain ⟨b', off', B, c, z, e', _, h1, _⟩ := h 0 h0
  rw [e] at e'; cases e'
  exact World.block_lt_of_cell? w _ h1
def Packing (xs : List (List Int)) (w : World) (e : Ending) (w' : World) : Prop :=
  ∃ v, e = .returned v ∧ w'.ownsRow w.heap.size 5 1 v (packed xs).length (u8cells (packed xs)) ∧ Below w.heap.size w w'
theorem news_u82 (w : World) (a b : Int) (e : TypeId) : ∀ j u, ([Value.int .u8 a, Value.int .u8 b])[j]? = some u → (w.alloc (.cells #[.int .u8 a, .int .u8 b] e)).cell? ((⟨w.heap.size, 0, none⟩ : Addr).add j) = some u := by
  intro j u hj
  rw [add_at _ rfl]
  exact range_made w #[.int .u8 a, .int .u8 b] e j u hj
theorem news_u83 (w : World) (a b c : Int) (e : TypeId) : ∀ j u, ([Value.int .u8 a, Value.int .u8 b, Value.int .u8 c])[j]? = some u → (w.alloc (.cells #[.int .u8 a, .int .u8 b, .int .u8 c] e)).cell? ((⟨w.heap.size, 0, none⟩ : Addr).add j) = some u := by
  intro j u hj
  rw [add_at _ rfl]
  exact range_made w #[.int .u8 a, .int .u8 b, .int .u8 c] e j u hj

end Go.Proofs.Ytmogoaceangblaa
