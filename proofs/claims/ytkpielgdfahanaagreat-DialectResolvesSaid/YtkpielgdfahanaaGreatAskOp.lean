/- An operation is asked for: 'ask' appends it. -/
import Derived.Test.YtkpielgdfahanaaGreatEffects
import Derived.BigRegion
import Derived.Deep.AppendLies
import Derived.OwnWalk
/- The cell that is being resolved (asking): its block, and what its small methods do. -/
namespace Go.Proofs.YtkpielgdfahanaaGreat
open Go.RowKit Go.Maps

/-- Block b is an asking: thirty numbers (0 to 23 the slots, 24 effect, 25 param, 26 dialect, 27 p, 28 h, 29 l), the operations so far, and whether anything was recalled. -/
def AskAt (b : Nat) (L : List Int) (v : Value) (rc : Bool) (w : World) : Prop :=
  L.length = 30 ∧ w.heap[b]? = some (.cells (L.map (Value.int .i64) ++ [v, .bool rc]).toArray 69 (0, 0))
section
variable {b : Nat} {L : List Int} {v : Value} {rc : Bool} {w : World}
theorem AskAt.lt (h : AskAt b L v rc w) : b < w.heap.size := (Array.getElem?_eq_some_iff.1 h.2).1
theorem AskAt.num (h : AskAt b L v rc w) {k : Nat} (hk : k < 30) : w.cell? ⟨b, k, none⟩ = some (.int .i64 (L.getD k 0)) := by
  rw [cell_of_row w b k _ 69 (0, 0) h.2]
  have := h.1
  simp [List.getElem?_append, this, hk, List.getD]
theorem AskAt.ops (h : AskAt b L v rc w) : w.cell? ⟨b, 30, none⟩ = some v := by
  rw [cell_of_row w b 30 _ 69 (0, 0) h.2]
  simp [h.1]
theorem AskAt.rec (h : AskAt b L v rc w) : w.cell? ⟨b, 31, none⟩ = some (.bool rc) := by
  rw [cell_of_row w b 31 _ 69 (0, 0) h.2]
  simp [h.1]
theorem AskAt.free (h : AskAt b L v rc w) (k : Nat) : w.frozen? ⟨b, k, none⟩ = false := frozen_of_row w b k _ 69 h.2
theorem AskAt.set (h : AskAt b L v rc w) {k : Nat} (hk : k < 30) (x : Int) : AskAt b (L.set k x) v rc (w.setCell ⟨b, k, none⟩ (.int .i64 x)) := by
  refine ⟨by simp [h.1], ?_⟩
  rw [heap_setCell_same w b k _ 69 (.int .i64 x) h.2]
  have := h.1
  simp [List.map_set, this, hk]
theorem AskAt.setOps (h : AskAt b L v rc w) (x : Value) : AskAt b L x rc (w.setCell ⟨b, 30, none⟩ x) := by
  refine ⟨h.1, ?_⟩
  rw [heap_setCell_same w b 30 _ 69 x h.2]
  simp [h.1]
theorem AskAt.setRec (h : AskAt b L v rc w) (x : Bool) : AskAt b L v x (w.setCell ⟨b, 31, none⟩ (.bool x)) := by
  refine ⟨h.1, ?_⟩
  rw [heap_setCell_same w b 31 _ 69 (.bool x) h.2]
  simp [h.1]
theorem AskAt.keep {w' : World} (h : AskAt b L v rc w) (he : w'.heap[b]? = w.heap[b]?) : AskAt b L v rc w' := ⟨h.1, he.trans h.2⟩
end

/-- What 'with' leaves. -/
def withA (L : List Int) (p : Int) : List Int := ((L.set 27 p).set 28 (p / 16)).set 29 (p % 16)
theorem grown_set (w : World) (b k : Nat) (v : Value) : w.grownBy (w.setCell ⟨b, k, none⟩ v) (some b) :=
  ⟨rfl, rfl, rfl, by simp, fun i _ hi => heap_setCell_other w ⟨b, k, none⟩ i v (fun e => hi (by rw [e]))⟩
theorem grown_trans {a c d : World} {b : Nat} (h : a.grownBy c (some b)) (k : c.grownBy d (some b)) : a.grownBy d (some b) :=
  ⟨k.os.trans h.os, k.tape.trans h.tape, k.output.trans h.output, Nat.le_trans h.size k.size, fun i hi hb => (k.block i (Nat.lt_of_lt_of_le hi h.size) hb).trans (h.block i hi hb)⟩
theorem grown_drew {a c : World} {r : Option Nat} (h : a.grownBy c r) : a.grownBy c.drew r := ⟨h.os, h.tape, h.output, h.size, h.block⟩
theorem AskAt.drew {b : Nat} {L : List Int} {v : Value} {rc : Bool} {w : World} (h : AskAt b L v rc w) : AskAt b L v rc w.drew := h
set_option maxHeartbeats 1000000 in
theorem with_any (b : Nat) (L : List Int) (v : Value) (rc : Bool) (p : Int) (w : World) (h : AskAt b L v rc w) (h0 : 0 ≤ p) (h1 : p ≤ 255) :
    Calls Tryz.prog 53 #[.pointer (some ⟨b, 0, none⟩), .int .i64 p] w fun e w' => e = .returned (.tuple #[]) ∧ AskAt b (withA L p) v rc w' ∧ w.grownBy w' (some b) := by
  have c27 := h.num (k := 27) (by omega)
  have c28 := h.num (k := 28) (by omega)
  have c29 := h.num (k := 29) (by omega)
  have f27 := h.free 27
  have f28 := h.free 28
  have f29 := h.free 29
  have H := hid h
  clear h
  go_enter Tryz.func53, Tryz.ntmps53
  go_wp2
  go_end0
  exact ⟨rfl, ((H.out.set (k := 27) (by omega) _).set (k := 28) (by omega) _).set (k := 29) (by omega) _, grown_trans (grown_trans (grown_set _ _ _ _) (grown_set _ _ _ _)) (grown_set _ _ _ _)⟩
set_option maxHeartbeats 1000000 in
theorem slot_any (b : Nat) (L : List Int) (v : Value) (rc : Bool) (k : Nat) (w : World) (h : AskAt b L v rc w) (hk : k < 24) :
    Calls Tryz.prog 77 #[.pointer (some ⟨b, 0, none⟩), .int .i64 k] w fun e w' => e = .returned (.int .i64 (L.getD k 0)) ∧ AskAt b L v true w' ∧ w.grownBy w' (some b) := by
  have c31 := h.rec
  have f31 := h.free 31
  have ck := (h.setRec true).num (k := k) (by omega)
  have H := hid h
  clear h
  go_enter Tryz.func77, Tryz.ntmps77
  go_wp2
  go_ret
  exact ⟨rfl, H.out.setRec true, grown_set _ _ _ _⟩

/-- What 'whole' leaves. -/
def wholeA (L : List Int) (k : Nat) : List Int := if L.getD 27 0 = 0 then (withA L (L.getD k 0)).set k (L.getD k 0) else L.set k (L.getD 27 0)
set_option maxHeartbeats 2000000 in
theorem whole_yes (b : Nat) (L : List Int) (v : Value) (rc : Bool) (k : Nat) (w : World) (h : AskAt b L v rc w) (hk : k < 24) (hp : L.getD 27 0 ≠ 0) :
    Calls Tryz.prog 70 #[.pointer (some ⟨b, 0, none⟩), .int .i64 k] w fun e w' => e = .returned (.tuple #[]) ∧ AskAt b (L.set k (L.getD 27 0)) v rc w' ∧ w.grownBy w' (some b) := by
  have c27 := h.num (k := 27) (by omega)
  have ck := h.num (k := k) (by omega)
  have fk := h.free k
  have hp' : (L.getD 27 0 == 0) = false := beq_eq_false_iff_ne.2 hp
  have hk0 : (0 : Int) ≤ (k : Int) := by omega
  have hk1 : (k : Int) < 24 := by omega
  have H := hid h
  generalize hpe : L.getD 27 0 = p at *
  clear h hp
  go_enter Tryz.func70, Tryz.ntmps70
  go_wp2
  go_region
  go_wp2
  go_end0
  exact ⟨rfl, H.out.set (by omega) _, grown_drew (grown_set _ _ _ _)⟩
theorem withA_p (L : List Int) (p : Int) (h : L.length = 30) : (withA L p).getD 27 0 = p := by simp [withA, h]
set_option maxHeartbeats 2000000 in
theorem whole_no (b : Nat) (L : List Int) (v : Value) (rc : Bool) (k : Nat) (w : World) (h : AskAt b L v rc w) (hk : k < 24) (hp : L.getD 27 0 = 0) (s0 : 0 ≤ L.getD k 0) (s1 : L.getD k 0 ≤ 255) :
    Calls Tryz.prog 70 #[.pointer (some ⟨b, 0, none⟩), .int .i64 k] w fun e w' => e = .returned (.tuple #[]) ∧ AskAt b ((withA L (L.getD k 0)).set k (L.getD k 0)) v true w' ∧ w.grownBy w' (some b) := by
  have c27 := h.num (k := 27) (by omega)
  rw [hp] at c27
  have hk0 : (0 : Int) ≤ (k : Int) := by omega
  have hk1 : (k : Int) < 24 := by omega
  have H := hid h
  have HL := hid h.1
  have HS := hid (And.intro s0 s1)
  have HK := hid hk
  generalize hse : L.getD k 0 = s at *
  have HSE := hid hse
  clear h hp s0 s1 hse hk
  go_enter Tryz.func70, Tryz.ntmps70
  go_wp2_with fail
  go_at_call 77
  refine (slot_any b L v rc k _ H.out HK.out).mono ?_
  rintro e w1 ⟨rfl, h1, g1⟩
  rw [HSE.out]
  have H1 := hid h1
  have G1 := hid g1
  clear h1 g1
  go_wp2_with fail
  go_at_call 53
  refine (with_any b L v true s _ H1.out HS.out.1 HS.out.2).mono ?_
  rintro e w2 ⟨rfl, h2, g2⟩
  have c27' := h2.num (k := 27) (by omega)
  rw [withA_p L s HL.out] at c27'
  have ck := h2.num (k := k) (by have := HK.out; omega)
  have fk := h2.free k
  have H2 := hid h2
  have G2 := hid g2
  clear h2 g2 c27
  go_wp2
  go_region
  go_wp2
  go_end0
  exact ⟨rfl, (H2.out.set (by have := HK.out; omega) _).drew, grown_drew (grown_trans (grown_trans G1.out G2.out) (grown_set _ _ _ _))⟩
theorem whole_any (b : Nat) (L : List Int) (v : Value) (rc : Bool) (k : Nat) (w : World) (h : AskAt b L v rc w) (hk : k < 24) (s0 : 0 ≤ L.getD k 0) (s1 : L.getD k 0 ≤ 255) :
    Calls Tryz.prog 70 #[.pointer (some ⟨b, 0, none⟩), .int .i64 k] w fun e w' => e = .returned (.tuple #[]) ∧ AskAt b (wholeA L k) v (rc || decide (L.getD 27 0 = 0)) w' ∧ w.grownBy w' (some b) := by
  unfold wholeA
  by_cases hp : L.getD 27 0 = 0
  · rw [if_pos hp, decide_eq_true hp, Bool.or_true]; exact whole_no b L v rc k w h hk hp s0 s1
  · rw [if_neg hp, decide_eq_false hp, Bool.or_false]; exact whole_yes b L v rc k w h hk hp
end Go.Proofs.YtkpielgdfahanaaGreat
namespace Go.Proofs.YtkpielgdfahanaaGreat
open Go.RowKit Go.Maps

theorem info50 : (Tryz.prog.info? 50).map (fun i => (i.zero, i.size, i.bytes)) = some (some (.agg #[.int .i64 0, .int .i64 0, .int .i64 0]), 3, 24) := by kernel_rfl
/-- One step of an asking: nothing has turned but its block, the row of its operations, and new blocks. -/
structure Steps (b : Nat) (v v' : Value) (w w' : World) : Prop where
  os : w'.os = w.os
  tape : w'.tape = w.tape
  output : w'.output = w.output
  size : w.heap.size ≤ w'.heap.size
  block : ∀ c, c < w.heap.size → c ≠ b → v.ownBlock ≠ some c → w'.heap[c]? = w.heap[c]?
  own : v'.ownBlock = v.ownBlock ∨ ∃ g, w.heap.size ≤ g ∧ v'.ownBlock = some g
theorem Steps.refl (b : Nat) (v : Value) (w : World) : Steps b v v w w := ⟨rfl, rfl, rfl, Nat.le_refl _, fun _ _ _ _ => rfl, Or.inl rfl⟩
theorem Steps.grown {b : Nat} {v v' : Value} {w w1 w2 : World} (h : Steps b v v' w w1) (hg : w1.grownBy w2 (some b)) : Steps b v v' w w2 :=
  ⟨hg.os.trans h.os, hg.tape.trans h.tape, hg.output.trans h.output, Nat.le_trans h.size hg.size, fun c hc hb hv => (hg.block c (Nat.lt_of_lt_of_le hc h.size) (fun e => hb (by injection e))).trans (h.block c hc hb hv), h.own⟩
theorem Steps.trans {b : Nat} {v v1 v2 : Value} {w w1 w2 : World} (h : Steps b v v1 w w1) (k : Steps b v1 v2 w1 w2) : Steps b v v2 w w2 :=
  ⟨k.os.trans h.os, k.tape.trans h.tape, k.output.trans h.output, Nat.le_trans h.size k.size, fun c hc hb hv => (k.block c (Nat.lt_of_lt_of_le hc h.size) hb (fun e => by
      rcases h.own with h1 | ⟨g, hg, h1⟩
      · exact hv (h1 ▸ e)
      · rw [h1] at e; injection e with e; omega)).trans (h.block c hc hb hv), by
    rcases k.own with h1 | ⟨g, hg, h1⟩
    · rw [h1]; exact h.own
    · exact Or.inr ⟨g, Nat.le_trans h.size hg, h1⟩⟩

/-- An asking with its operations. -/
structure Asks (b base : Nat) (L : List Int) (v : Value) (rc : Bool) (n : Nat) (cs : List Value) (w : World) : Prop where
  at_ : AskAt b L v rc w
  own : w.ownsRow base 50 3 v n cs
  ne : v.ownBlock ≠ some b
def opC (kind x y : Int) : List Value := [.int .i64 kind, .int .i64 x, .int .i64 y]
set_option maxHeartbeats 2000000 in
theorem ask_any (b base : Nat) (L : List Int) (v : Value) (rc : Bool) (n : Nat) (cs : List Value) (kind x y : Int) (w : World) (h : Asks b base L v rc n cs w) (hn : n ≤ 50) (hB : base ≤ w.heap.size) :
    Calls Tryz.prog 63 #[.pointer (some ⟨b, 0, none⟩), .int .i64 kind, .int .i64 x, .int .i64 y] w fun e w' => e = .returned (.tuple #[]) ∧ ∃ v', Asks b base L v' rc (n + 1) (cs ++ opC kind x y) w' ∧ Steps b v v' w w' := by
  obtain ⟨i0, hi, hz0, hz1, hz2⟩ := info_parts info50
  have c30 := h.at_.ops
  have H := hid h
  have HB := hid hB
  have HN := hid hn
  have HI := hid hi
  have HZ0 := hid hz0
  have HZ1 := hid hz1
  have HZ2 := hid hz2
  clear h hB hn hi hz0 hz1 hz2
  go_enter Tryz.func63, Tryz.ntmps63
  go_wp2_with (first
    | (at_builtin; refine wpList_append_lies _ rfl _ _ 30 rfl base 50 i0 _ 3 24 Tryz.underlying30 HI.out HZ0.out HZ1.out HZ2.out rfl (by decide) v n cs rfl (H.out.own.alloc _) _ 1 1 (opC kind x y) rfl rfl ?c1 ?c2 (by decide) ?c3 ?c4 ?c5 _ rfl ?_)
    | fail)
  case c1 => exact World.news_of_block (heap_alloc_new w _)
  case c2 => intro u hu; simp [opC] at hu; rcases hu with rfl | rfl | rfl <;> rfl
  case c3 => have := HN.out; unfold maxLen; omega
  case c4 => have := HN.out; omega
  case c5 => have := HB.out; simp; omega
  intro g cap w1 ho hg hat hlt
  have hbl := H.out.at_.lt
  have hgb : g ≠ b := fun e => by
    rcases hat with h | h
    · exact H.out.ne (e ▸ h)
    · omega
  have hold : ∀ c, c < w.heap.size → (w.alloc (.cells #[.int .i64 kind, .int .i64 x, .int .i64 y] 50)).heap[c]? = w.heap[c]? := fun c hc => (below1 w _).block c hc
  have hA : AskAt b L v rc w1 := H.out.at_.keep ((hg.block b (by simp; omega) (fun e => H.out.ne e.symm)).trans (hold b hbl))
  have c30' := hA.ops
  have f30 := hA.free 30
  have HA := hid hA
  have HO := hid ho
  have HG := hid hg
  have HT := hid hat
  have HGB := hid hgb
  have HLD := hid hold
  clear hA ho hg hat hgb hold hlt hbl c30
  go_wp2
  go_end0
  refine ⟨rfl, _, ⟨HA.out.setOps _, HO.out.kept (grown_set w1 b 30 _) (Or.inr fun e => HGB.out (by injection e)), fun e => HGB.out (by injection e)⟩, Steps.grown (w1 := w1) ⟨HG.out.os, HG.out.tape, HG.out.output, Nat.le_trans (by simp) HG.out.size, fun c hc hb hv => (HG.out.block c (by simp; omega) (fun e => hv e.symm)).trans (HLD.out c hc), ?_⟩ (grown_set w1 b 30 _)⟩
  rcases HT.out with h | h
  · exact Or.inl h.symm
  · exact Or.inr ⟨g, by omega, rfl⟩
end Go.Proofs.YtkpielgdfahanaaGreat
