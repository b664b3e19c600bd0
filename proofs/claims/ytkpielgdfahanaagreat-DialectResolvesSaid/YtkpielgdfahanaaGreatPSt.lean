/- The program's asking as numbers: what its small methods (with, slot, ask, whole) do. -/
import Derived.Test.YtkpielgdfahanaaGreatSt
import Derived.Test.YtkpielgdfahanaaGreatRun3
namespace Go.Proofs.YtkpielgdfahanaaGreat
open Go.RowKit Go.Maps

def opCells (O : List (Int × Int × Int)) : List Value := O.flatMap fun o => opC o.1 o.2.1 o.2.2
theorem opCells_snoc (O : List (Int × Int × Int)) (n x y : Int) : opCells (O ++ [(n, x, y)]) = opCells O ++ opC n x y := by simp [opCells]
/-- Block b is an asking of dialect d in the state s. -/
structure PAt (b base : Nat) (d : Int) (s : St) (v : Value) (rc : Bool) (w : World) : Prop where
  len : s.M.length = 26
  asks : Asks b base (s.M ++ [d, s.p, s.h, s.l]) v rc s.O.length (opCells s.O) w
  base : base ≤ b
section
variable {b base : Nat} {d : Int} {s : St} {v : Value} {rc : Bool} {w : World}
theorem getD_left {M N : List Int} {k : Nat} (hk : k < M.length) : (M ++ N).getD k 0 = M.getD k 0 := by
  rw [List.getD_eq_getElem?_getD, List.getElem?_append_left hk, List.getD_eq_getElem?_getD]
theorem getD_right {M N : List Int} {k n : Nat} (hn : M.length = n) (hk : n ≤ k) : (M ++ N).getD k 0 = N.getD (k - n) 0 := by
  subst hn
  rw [List.getD_eq_getElem?_getD, List.getElem?_append_right hk, List.getD_eq_getElem?_getD]
theorem PAt.cM (h : PAt b base d s v rc w) {k : Nat} (hk : k < 26) : w.cell? ⟨b, k, none⟩ = some (.int .i64 (s.M.getD k 0)) := by
  rw [h.asks.at_.num (by omega), getD_left (by rw [h.len]; omega)]
theorem PAt.cd (h : PAt b base d s v rc w) : w.cell? ⟨b, 26, none⟩ = some (.int .i64 d) := by
  rw [h.asks.at_.num (by omega), getD_right h.len (by omega)]; rfl
theorem PAt.cp (h : PAt b base d s v rc w) : w.cell? ⟨b, 27, none⟩ = some (.int .i64 s.p) := by
  rw [h.asks.at_.num (by omega), getD_right h.len (by omega)]; rfl
theorem PAt.ch (h : PAt b base d s v rc w) : w.cell? ⟨b, 28, none⟩ = some (.int .i64 s.h) := by
  rw [h.asks.at_.num (by omega), getD_right h.len (by omega)]; rfl
theorem PAt.cl (h : PAt b base d s v rc w) : w.cell? ⟨b, 29, none⟩ = some (.int .i64 s.l) := by
  rw [h.asks.at_.num (by omega), getD_right h.len (by omega)]; rfl
theorem PAt.le (h : PAt b base d s v rc w) : base ≤ w.heap.size := Nat.le_of_lt (Nat.lt_of_le_of_lt h.base h.asks.at_.lt)
theorem PAt.drew (h : PAt b base d s v rc w) : PAt b base d s v rc w.drew := ⟨h.len, ⟨h.asks.at_, h.asks.own, h.asks.ne⟩, h.base⟩
theorem PAt.drewN (h : PAt b base d s v rc w) (n : Nat) : PAt b base d s v rc (w.drewN n) := ⟨h.len, ⟨h.asks.at_, h.asks.own, h.asks.ne⟩, h.base⟩

/-- A method has turned the state into s'. -/
def Ran (b base : Nat) (d : Int) (s' : St) (v : Value) (w : World) (e : Ending) (w' : World) : Prop :=
  e = .returned (.tuple #[]) ∧ ∃ v' rc', PAt b base d s' v' rc' w' ∧ Steps b v v' w w'
theorem Steps.drewl {v' : Value} {w' : World} (h : Steps b v v' w.drew w') : Steps b v v' w w' := ⟨h.os, h.tape, h.output, h.size, h.block, h.own⟩
theorem Steps.drewr {v' : Value} {w' : World} (h : Steps b v v' w w') : Steps b v v' w w'.drew := ⟨h.os, h.tape, h.output, h.size, h.block, h.own⟩
theorem Steps.drewN {v' : Value} {w' : World} {n : Nat} (h : Steps b v v' (w.drewN n) w') : Steps b v v' w w' := ⟨h.os, h.tape, h.output, h.size, h.block, h.own⟩
theorem Ran.step {s' : St} {v1 : Value} {w1 : World} {e : Ending} {w2 : World} (g : Steps b v v1 w w1) (h : Ran b base d s' v1 w1 e w2) : Ran b base d s' v w e w2 := by
  obtain ⟨h1, v2, r2, h2, h3⟩ := h
  exact ⟨h1, v2, r2, h2, g.trans h3⟩
theorem Ran.drew {s' : St} {e : Ending} {w2 : World} (h : Ran b base d s' v w.drew e w2) : Ran b base d s' v w e w2 := by
  obtain ⟨h1, v2, r2, h2, h3⟩ := h
  exact ⟨h1, v2, r2, h2, h3.drewl⟩
theorem withA_eq {M : List Int} (hM : M.length = 26) (d p h l q : Int) : withA (M ++ [d, p, h, l]) q = M ++ [d, q, q / 16, q % 16] := by
  unfold withA
  rw [List.set_append_right _ _ (by omega), List.set_append_right _ _ (by omega), List.set_append_right _ _ (by omega)]
  simp [hM]
theorem PAt.turn {s' : St} {w' : World} {L : List Int} {rc' : Bool} (h : PAt b base d s v rc w) (ha : AskAt b L v rc' w') (hg : w.grownBy w' (some b)) (hL : L = s'.M ++ [d, s'.p, s'.h, s'.l]) (hM : s'.M.length = 26) (hO : s'.O = s.O) : PAt b base d s' v rc' w' := by
  refine ⟨hM, ?_, h.base⟩
  rw [hO, ← hL]
  exact h.asks.grown ha hg
theorem pput (q : Int) (h : PAt b base d s v rc w) (h0 : 0 ≤ q) (h1 : q ≤ 255) : Calls Tryz.prog 53 #[.pointer (some ⟨b, 0, none⟩), .int .i64 q] w (Ran b base d (s.put q) v w) :=
  (with_any b _ v rc q w h.asks.at_ h0 h1).mono fun _ _ ⟨he, ha, hg⟩ => ⟨he, v, rc, h.turn ha hg (withA_eq h.len ..) h.len rfl, Steps.of_grown v hg⟩
theorem pslot (k : Nat) (hk : k < 24) (h : PAt b base d s v rc w) : Calls Tryz.prog 77 #[.pointer (some ⟨b, 0, none⟩), .int .i64 k] w fun e w' => e = .returned (.int .i64 (s.slot k)) ∧ PAt b base d s v true w' ∧ Steps b v v w w' :=
  (slot_any b _ v rc k w h.asks.at_ hk).mono fun _ _ ⟨he, ha, hg⟩ => ⟨by rw [he, getD_left (by rw [h.len]; omega)]; rfl, h.turn ha hg rfl h.len rfl, Steps.of_grown v hg⟩
theorem pask (n x y : Int) (h : PAt b base d s v rc w) (hO : s.O.length ≤ 45) : Calls Tryz.prog 63 #[.pointer (some ⟨b, 0, none⟩), .int .i64 n, .int .i64 x, .int .i64 y] w (Ran b base d (s.ask n x y) v w) :=
  (ask_any b base _ v rc _ _ n x y w h.asks (by omega) h.le).mono fun _ w' ⟨he, v', ha, hg⟩ => ⟨he, v', rc, ⟨h.len, by
    show Asks b base (s.M ++ [d, s.p, s.h, s.l]) v' rc (s.O ++ [(n, x, y)]).length (opCells (s.O ++ [(n, x, y)])) w'
    rw [opCells_snoc, List.length_append]; exact ha, h.base⟩, hg⟩
theorem wholeA_eq {s : St} (hM : s.M.length = 26) (d : Int) {k : Nat} (hk : k < 24) : wholeA (s.M ++ [d, s.p, s.h, s.l]) k = (s.whole k).M ++ [d, (s.whole k).p, (s.whole k).h, (s.whole k).l] := by
  unfold wholeA St.whole St.wholeP
  rw [getD_right hM (by omega), getD_left (by rw [hM]; omega)]
  show (if s.p = 0 then _ else _) = _
  by_cases h : s.p = 0
  · simp only [if_pos h]
    rw [withA_eq hM, List.set_append_left _ _ (by omega)]
    rfl
  · simp only [if_neg h]
    rw [List.set_append_left _ _ (by omega)]
    rfl
theorem pwhole (k : Nat) (hk : k < 24) (h : PAt b base d s v rc w) (hs : s.Ok 15) : Calls Tryz.prog 70 #[.pointer (some ⟨b, 0, none⟩), .int .i64 k] w (Ran b base d (s.whole k) v w) := by
  have hL : (s.M ++ [d, s.p, s.h, s.l]).getD k 0 = s.slot k := getD_left (by rw [h.len]; omega)
  refine (whole_any b _ v rc k w h.asks.at_ hk (by rw [hL]; exact (hs.slots k hk).1) (by rw [hL]; exact (hs.slots k hk).2)).mono fun _ _ ⟨he, ha, hg⟩ => ⟨he, v, _, h.turn ha hg (wholeA_eq h.len d hk) (hs.whole hk).len (St.whole_M s k).2, Steps.of_grown v hg⟩
end
end Go.Proofs.YtkpielgdfahanaaGreat
