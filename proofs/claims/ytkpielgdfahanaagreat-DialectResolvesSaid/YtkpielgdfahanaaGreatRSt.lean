/- The reference's cell that is being worked out (ask): its block, and what its small methods do. -/
import Derived.Test.YtkpielgdfahanaaGreatPCol2
namespace Go.Proofs.YtkpielgdfahanaaGreat
open Go.RowKit Go.Maps
/-- Block b is an ask of the reference: 29 numbers (0 to 25 the memory, 26 p, 27 h, 28 l) and the operations. -/
def RaskAt (b : Nat) (L : List Int) (v : Value) (w : World) : Prop :=
  L.length = 29 ∧ w.heap[b]? = some (.cells (L.map (Value.int .i64) ++ [v]).toArray 58 (0, 0))
section
variable {b : Nat} {L : List Int} {v : Value} {w : World}
theorem RaskAt.lt (h : RaskAt b L v w) : b < w.heap.size := (Array.getElem?_eq_some_iff.1 h.2).1
theorem RaskAt.num (h : RaskAt b L v w) {k : Nat} (hk : k < 29) : w.cell? ⟨b, k, none⟩ = some (.int .i64 (L.getD k 0)) := by
  rw [cell_of_row w b k _ 58 (0, 0) h.2]
  have := h.1
  simp [List.getElem?_append, this, hk, List.getD]
theorem RaskAt.ops (h : RaskAt b L v w) : w.cell? ⟨b, 29, none⟩ = some v := by
  rw [cell_of_row w b 29 _ 58 (0, 0) h.2]
  simp [h.1]
theorem RaskAt.free (h : RaskAt b L v w) (k : Nat) : w.frozen? ⟨b, k, none⟩ = false := frozen_of_row w b k _ 58 h.2
theorem RaskAt.set (h : RaskAt b L v w) {k : Nat} (hk : k < 29) (x : Int) : RaskAt b (L.set k x) v (w.setCell ⟨b, k, none⟩ (.int .i64 x)) := by
  refine ⟨by simp [h.1], ?_⟩
  rw [heap_setCell_same w b k _ 58 (.int .i64 x) h.2]
  have := h.1
  simp [List.map_set, this, hk]
theorem RaskAt.setOps (h : RaskAt b L v w) (x : Value) : RaskAt b L x (w.setCell ⟨b, 29, none⟩ x) := by
  refine ⟨h.1, ?_⟩
  rw [heap_setCell_same w b 29 _ 58 x h.2]
  simp [h.1]
theorem RaskAt.keep {w' : World} (h : RaskAt b L v w) (he : w'.heap[b]? = w.heap[b]?) : RaskAt b L v w' := ⟨h.1, he.trans h.2⟩
end
/-- An ask with its operations, in the state s. -/
structure RAt (b base : Nat) (s : St) (v : Value) (w : World) : Prop where
  len : s.M.length = 26
  at_ : RaskAt b (s.M ++ [s.p, s.h, s.l]) v w
  own : w.ownsRow base 50 3 v s.O.length (opCells s.O)
  ne : v.ownBlock ≠ some b
  base : base ≤ b
section
variable {b base : Nat} {s : St} {v : Value} {w : World}
theorem RAt.cM (h : RAt b base s v w) {k : Nat} (hk : k < 26) : w.cell? ⟨b, k, none⟩ = some (.int .i64 (s.M.getD k 0)) := by
  rw [h.at_.num (by omega), getD_left (by rw [h.len]; omega)]
theorem RAt.cp (h : RAt b base s v w) : w.cell? ⟨b, 26, none⟩ = some (.int .i64 s.p) := by
  rw [h.at_.num (by omega), getD_right h.len (by omega)]; rfl
theorem RAt.ch (h : RAt b base s v w) : w.cell? ⟨b, 27, none⟩ = some (.int .i64 s.h) := by
  rw [h.at_.num (by omega), getD_right h.len (by omega)]; rfl
theorem RAt.cl (h : RAt b base s v w) : w.cell? ⟨b, 28, none⟩ = some (.int .i64 s.l) := by
  rw [h.at_.num (by omega), getD_right h.len (by omega)]; rfl
theorem RAt.le (h : RAt b base s v w) : base ≤ w.heap.size := Nat.le_of_lt (Nat.lt_of_le_of_lt h.base h.at_.lt)
theorem RAt.drew (h : RAt b base s v w) : RAt b base s v w.drew := ⟨h.len, h.at_, h.own, h.ne, h.base⟩
theorem RAt.drewN (h : RAt b base s v w) (n : Nat) : RAt b base s v (w.drewN n) := ⟨h.len, h.at_, h.own, h.ne, h.base⟩
theorem St.ask_len (s : St) (n x y : Int) : (s.ask n x y).O.length = s.O.length + 1 := by simp [St.ask]
theorem RAt.cells {X s : St} (h : RAt b base X v w) (e1 : X.p = s.p) (e2 : X.h = s.h) (e3 : X.l = s.l) (e4 : X.M = s.M) :
    w.cell? ⟨b, 26, none⟩ = some (.int .i64 s.p) ∧ w.cell? ⟨b, 27, none⟩ = some (.int .i64 s.h) ∧ w.cell? ⟨b, 28, none⟩ = some (.int .i64 s.l) ∧ w.cell? ⟨b, 1, none⟩ = some (.int .i64 (s.slot 1)) ∧ w.cell? ⟨b, 2, none⟩ = some (.int .i64 (s.slot 2)) ∧ w.cell? ⟨b, 3, none⟩ = some (.int .i64 (s.slot 3)) := by
  unfold St.slot
  rw [← e1, ← e2, ← e3, ← e4]
  exact ⟨h.cp, h.ch, h.cl, h.cM (by decide), h.cM (by decide), h.cM (by decide)⟩
theorem St.Ok.all {B : Int} {s : St} (h : s.Ok B) : (0 ≤ s.p ∧ s.p ≤ 255) ∧ (0 ≤ s.h ∧ s.h ≤ 15) ∧ (0 ≤ s.l ∧ s.l ≤ B) ∧ (0 ≤ s.slot 2 ∧ s.slot 2 ≤ 255) ∧ 0 ≤ s.slot 3 ∧ s.slot 3 ≤ 255 := ⟨h.p, h.h, h.l, h.slots 2 (by decide), h.slots 3 (by decide)⟩
/-- A method has turned the state into s'. -/
def RRan (b base : Nat) (s' : St) (v : Value) (w : World) (e : Ending) (w' : World) : Prop :=
  e = .returned (.tuple #[]) ∧ ∃ v', RAt b base s' v' w' ∧ Steps b v v' w w'
theorem RRan.step {s' : St} {v1 : Value} {w1 : World} {e : Ending} {w2 : World} (g : Steps b v v1 w w1) (h : RRan b base s' v1 w1 e w2) : RRan b base s' v w e w2 := by
  obtain ⟨h1, v2, h2, h3⟩ := h
  exact ⟨h1, v2, h2, g.trans h3⟩
theorem RAt.turn {s' : St} {w' : World} {L : List Int} (h : RAt b base s v w) (ha : RaskAt b L v w') (hg : w.grownBy w' (some b)) (hL : L = s'.M ++ [s'.p, s'.h, s'.l]) (hM : s'.M.length = 26) (hO : s'.O = s.O) : RAt b base s' v w' := by
  refine ⟨hM, hL ▸ ha, ?_, h.ne, h.base⟩
  rw [hO]
  exact h.own.kept hg (Or.inr fun e => h.ne e)
def rwithA (L : List Int) (p : Int) : List Int := ((L.set 26 p).set 27 (p / 16)).set 28 (p % 16)
theorem rwithA_eq {M : List Int} (hM : M.length = 26) (p h l q : Int) : rwithA (M ++ [p, h, l]) q = M ++ [q, q / 16, q % 16] := by
  unfold rwithA
  rw [List.set_append_right _ _ (by omega), List.set_append_right _ _ (by omega), List.set_append_right _ _ (by omega)]
  simp [hM]
set_option maxHeartbeats 1000000 in
theorem rput (q : Int) (h : RAt b base s v w) (h0 : 0 ≤ q) (h1 : q ≤ 255) : Calls Tryz.prog 40 #[.pointer (some ⟨b, 0, none⟩), .int .i64 q] w (RRan b base (s.put q) v w) := by
  have c26 := h.cp
  have c27 := h.ch
  have c28 := h.cl
  have f26 := h.at_.free 26
  have f27 := h.at_.free 27
  have f28 := h.at_.free 28
  have H := hid h
  clear h
  go_enter Tryz.func40, Tryz.ntmps40
  go_wp2
  go_end0
  have g := grown_trans (grown_trans (grown_set w b 26 (.int .i64 q)) (grown_set _ b 27 (.int .i64 (q / 16)))) (grown_set _ b 28 (.int .i64 (q % 16)))
  exact ⟨rfl, v, H.out.turn (((H.out.at_.set (k := 26) (by omega) q).set (k := 27) (by omega) (q / 16)).set (k := 28) (by omega) (q % 16)) g (rwithA_eq H.out.len ..) H.out.len rfl, Steps.of_grown v g⟩
theorem RAt.rkeep (h : RAt b base s v w) {k : Nat} (hk : k < 24) (x : Int) : RAt b base (s.keep k x) v (w.setCell ⟨b, k, none⟩ (.int .i64 x)) :=
  h.turn (h.at_.set (k := k) (by omega) x) (grown_set _ _ _ _) (by rw [List.set_append_left _ _ (by rw [h.len]; omega)]; rfl) (by simp [St.keep, h.len]) rfl
theorem RAt.rsetL (h : RAt b base s v w) (x : Int) : RAt b base (s.setL x) v (w.setCell ⟨b, 28, none⟩ (.int .i64 x)) :=
  h.turn (h.at_.set (k := 28) (by omega) x) (grown_set _ _ _ _) (by rw [List.set_append_right _ _ (by rw [h.len]; omega), h.len]; rfl) h.len rfl
set_option maxHeartbeats 2000000 in
theorem rop (n x y : Int) (h : RAt b base s v w) (hO : s.O.length ≤ 45) : Calls Tryz.prog 39 #[.pointer (some ⟨b, 0, none⟩), .int .i64 n, .int .i64 x, .int .i64 y] w (RRan b base (s.ask n x y) v w) := by
  obtain ⟨i0, hi, hz0, hz1, hz2⟩ := info_parts info50
  have c30 := h.at_.ops
  have H := hid h
  have HB := hid h.le
  have HN := hid hO
  have HI := hid hi
  have HZ0 := hid hz0
  have HZ1 := hid hz1
  have HZ2 := hid hz2
  clear h hO hi hz0 hz1 hz2
  go_enter Tryz.func39, Tryz.ntmps39
  go_wp2_with (first
    | (at_builtin; refine wpList_append_lies _ rfl _ _ 30 rfl base 50 i0 _ 3 24 Tryz.underlying30 HI.out HZ0.out HZ1.out HZ2.out rfl (by decide) v s.O.length (opCells s.O) rfl (H.out.own.alloc _) _ 1 1 (opC n x y) rfl rfl ?c1 ?c2 (by decide) ?c3 ?c4 ?c5 _ rfl ?_)
    | fail)
  case c1 => exact World.news_of_block (heap_alloc_new w _)
  case c2 => intro u hu; simp [opC] at hu; rcases hu with rfl | rfl | rfl <;> rfl
  case c3 => have := HN.out; unfold maxLen; omega
  case c4 => have := HN.out; omega
  case c5 => have := HB.out; simp; omega
  intro g cap w1 ho hg hat hlt
  have hbl := H.out.at_.lt
  have hgb : g ≠ b := fun e => by
    rcases hat with h | h
    · exact H.out.ne (e ▸ h)
    · omega
  have hold : ∀ c, c < w.heap.size → (w.alloc (.cells #[.int .i64 n, .int .i64 x, .int .i64 y] 50)).heap[c]? = w.heap[c]? := fun c hc => (below1 w _).block c hc
  have hA : RaskAt b (s.M ++ [s.p, s.h, s.l]) v w1 := H.out.at_.keep ((hg.block b (by simp; omega) (fun e => H.out.ne e.symm)).trans (hold b hbl))
  have c30' := hA.ops
  have f30 := hA.free 29
  have HA := hid hA
  have HO := hid ho
  have HG := hid hg
  have HT := hid hat
  have HGB := hid hgb
  have HLD := hid hold
  clear hA ho hg hat hgb hold hlt hbl c30
  go_wp2
  go_end0
  refine ⟨rfl, _, ⟨H.out.len, HA.out.setOps _, ?_, fun e => HGB.out (by injection e), H.out.base⟩, Steps.grown (w1 := w1) ⟨HG.out.os, HG.out.tape, HG.out.output, Nat.le_trans (by simp) HG.out.size, fun c hc hb hv => (HG.out.block c (by simp; omega) (fun e => hv e.symm)).trans (HLD.out c hc), ?_⟩ (grown_set w1 b 29 _)⟩
  · show (w1.setCell ⟨b, 29, none⟩ _).ownsRow base 50 3 _ (s.O ++ [(n, x, y)]).length (opCells (s.O ++ [(n, x, y)]))
    rw [opCells_snoc, List.length_append]
    exact HO.out.kept (grown_set w1 b 29 _) (Or.inr fun e => HGB.out (by injection e))
  · rcases HT.out with h | h
    · exact Or.inl h.symm
    · exact Or.inr ⟨g, by omega, rfl⟩
set_option maxHeartbeats 2000000 in
theorem rwhole (k : Nat) (hk : k < 24) (h : RAt b base s v w) (hs : s.Ok 15) : Calls Tryz.prog 41 #[.pointer (some ⟨b, 0, none⟩), .int .i64 k] w (RRan b base (s.whole k) v w) := by
  have cp := h.cp
  have hk0 : (0 : Int) ≤ (k : Int) := by omega
  have hk1 : (k : Int) < 24 := by omega
  have ck : w.cell? ⟨b, k, none⟩ = some (.int .i64 (s.slot k)) := h.cM (by omega)
  have HK := hid hk
  have H := hid h
  have HL := hid (hs.slots k hk)
  clear h hs hk
  by_cases hp : s.p = 0
  · have HU : Hid (s.whole k = (s.put (s.slot k)).keep k (s.slot k)) := hid (by unfold St.whole St.wholeP; rw [if_pos hp]; rfl)
    rw [hp] at cp
    clear hp
    generalize hx : s.slot k = x at *
    clear hx
    go_enter Tryz.func41, Tryz.ntmps41
    go_wp2_with fail
    go_at_call 40
    refine (rput _ H.out HL.out.1 HL.out.2).mono ?_
    rintro e w1 ⟨rfl, v1, h1, g1⟩
    have c26 : w1.cell? ⟨b, 26, none⟩ = some (.int .i64 x) := h1.cp
    have ck2 := h1.cM (k := k) (by have := HK.out; omega)
    have fk := h1.at_.free k
    have H1 := hid h1
    have G1 := hid g1
    clear h1 g1 cp ck
    go_wp2
    go_region
    go_wp2
    go_end0
    rw [HU.out]
    exact ⟨rfl, _, (H1.out.rkeep HK.out _).drew, Steps.grown G1.out (grown_drew (grown_set _ _ _ _))⟩
  · have HU : Hid (s.whole k = s.keep k s.p) := hid (by unfold St.whole St.wholeP; rw [if_neg hp])
    have hp' : (s.p == 0) = false := beq_false hp
    have fk := H.out.at_.free k
    clear hp
    generalize hx : s.p = x at *
    clear hx
    go_enter Tryz.func41, Tryz.ntmps41
    go_wp2
    go_region
    go_wp2
    go_end0
    rw [HU.out]
    exact ⟨rfl, _, (H.out.rkeep HK.out _).drew, Steps.grown (Steps.refl b v w) (grown_drew (grown_set _ _ _ _))⟩
set_option maxHeartbeats 4000000 in
theorem rhalves (k : Nat) (hk : k < 24) (h : RAt b base s v w) (hs : s.Ok 15) : Calls Tryz.prog 42 #[.pointer (some ⟨b, 0, none⟩), .int .i64 k] w (RRan b base (s.halves k) v w) := by
  have ch := h.ch
  have cl := h.cl
  have hk0 : (0 : Int) ≤ (k : Int) := by omega
  have hk1 : (k : Int) < 24 := by omega
  have ck : w.cell? ⟨b, k, none⟩ = some (.int .i64 (s.slot k)) := h.cM (by omega)
  have H := hid h
  have HK := hid hk
  have HQ := hid (hs.half hk)
  have HU : Hid (s.halves k = (s.put (16 * s.halfH k + s.halfL k)).keep k (16 * s.halfH k + s.halfL k)) := hid rfl
  obtain ⟨s1, s2⟩ := hs.slots k hk
  clear h hs hk
  generalize hx : s.slot k = x at *
  have HX := hid hx
  clear hx
  generalize hhe : s.h = hv at *
  generalize hle : s.l = lv at *
  have EH : Hid (s.halfH k = if hv = 0 then x / 16 else hv) := hid (by unfold St.halfH; rw [hhe, HX.out])
  have EL : Hid (s.halfL k = if lv = 0 then x % 16 else lv) := hid (by unfold St.halfL; rw [hle, HX.out])
  clear hhe hle
  rw [EH.out, EL.out] at HQ HU
  clear EH EL HX
  by_cases hh : hv = 0 <;> by_cases hl : lv = 0
  · rw [if_pos hh, if_pos hl] at HQ HU
    obtain ⟨q1, q2, q3, q4⟩ := HQ.out
    clear HQ
    subst hh hl
    go_enter Tryz.func42, Tryz.ntmps42
    go_wp2
    go_quiet (fail)
    replace H := hid (H.out.drewN nq)
    go_wp2_with fail
    go_at_call 40
    refine (rput _ H.out (by omega) (by omega)).mono ?_
    rintro e w3 ⟨rfl, v1, h1, g1⟩
    have c26 := h1.cp
    have ck2 := h1.cM (k := k) (by have := HK.out; omega)
    have fk := h1.at_.free k
    have H1 := hid h1
    have G := hid g1.drewN
    clear h1 g1 ch cl ck
    go_wp2
    go_region
    go_wp2
    go_end0
    rw [HU.out]
    exact ⟨rfl, _, (RAt.rkeep H1.out HK.out _).drew, G.out.grown (grown_drew (grown_set _ _ _ _))⟩
  · rw [if_pos hh, if_neg hl] at HQ HU
    obtain ⟨q1, q2, q3, q4⟩ := HQ.out
    clear HQ
    have tl : (lv == 0) = false := beq_false hl
    subst hh
    clear hl
    go_enter Tryz.func42, Tryz.ntmps42
    go_wp2
    go_quiet (fail)
    replace H := hid (H.out.drewN nq)
    go_wp2_with fail
    go_at_call 40
    refine (rput _ H.out (by omega) (by omega)).mono ?_
    rintro e w3 ⟨rfl, v1, h1, g1⟩
    have c26 := h1.cp
    have ck2 := h1.cM (k := k) (by have := HK.out; omega)
    have fk := h1.at_.free k
    have H1 := hid h1
    have G := hid g1.drewN
    clear h1 g1 ch cl ck
    go_wp2
    go_region
    go_wp2
    go_end0
    rw [HU.out]
    exact ⟨rfl, _, (RAt.rkeep H1.out HK.out _).drew, G.out.grown (grown_drew (grown_set _ _ _ _))⟩
  · rw [if_neg hh, if_pos hl] at HQ HU
    obtain ⟨q1, q2, q3, q4⟩ := HQ.out
    clear HQ
    have th : (hv == 0) = false := beq_false hh
    subst hl
    clear hh
    go_enter Tryz.func42, Tryz.ntmps42
    go_wp2
    go_quiet (fail)
    replace H := hid (H.out.drewN nq)
    go_wp2_with fail
    go_at_call 40
    refine (rput _ H.out (by omega) (by omega)).mono ?_
    rintro e w3 ⟨rfl, v1, h1, g1⟩
    have c26 := h1.cp
    have ck2 := h1.cM (k := k) (by have := HK.out; omega)
    have fk := h1.at_.free k
    have H1 := hid h1
    have G := hid g1.drewN
    clear h1 g1 ch cl ck
    go_wp2
    go_region
    go_wp2
    go_end0
    rw [HU.out]
    exact ⟨rfl, _, (RAt.rkeep H1.out HK.out _).drew, G.out.grown (grown_drew (grown_set _ _ _ _))⟩
  · rw [if_neg hh, if_neg hl] at HQ HU
    obtain ⟨q1, q2, q3, q4⟩ := HQ.out
    clear HQ
    have th : (hv == 0) = false := beq_false hh
    have tl : (lv == 0) = false := beq_false hl
    clear hh hl
    go_enter Tryz.func42, Tryz.ntmps42
    go_wp2
    go_quiet (fail)
    replace H := hid (H.out.drewN nq)
    go_wp2_with fail
    go_at_call 40
    refine (rput _ H.out (by omega) (by omega)).mono ?_
    rintro e w3 ⟨rfl, v1, h1, g1⟩
    have c26 := h1.cp
    have ck2 := h1.cM (k := k) (by have := HK.out; omega)
    have fk := h1.at_.free k
    have H1 := hid h1
    have G := hid g1.drewN
    clear h1 g1 ch cl ck
    go_wp2
    go_region
    go_wp2
    go_end0
    rw [HU.out]
    exact ⟨rfl, _, (RAt.rkeep H1.out HK.out _).drew, G.out.grown (grown_drew (grown_set _ _ _ _))⟩
set_option maxHeartbeats 2000000 in
theorem rlow (k : Nat) (hk : k < 24) (h : RAt b base s v w) : Calls Tryz.prog 60 #[.pointer (some ⟨b, 0, none⟩), .int .i64 k] w (RRan b base (s.low k) v w) := by
  have cl := h.cl
  have hk0 : (0 : Int) ≤ (k : Int) := by omega
  have hk1 : (k : Int) < 24 := by omega
  have ck : w.cell? ⟨b, k, none⟩ = some (.int .i64 (s.slot k)) := h.cM (by omega)
  have HK := hid hk
  have H := hid h
  have fl := h.at_.free 28
  clear h hk
  by_cases hl : s.l = 0
  · have HU : Hid (s.low k = (s.setL (s.slot k)).keep k (s.slot k)) := hid (by unfold St.low St.lowL; rw [if_pos hl])
    rw [hl] at cl
    clear hl
    generalize hx : s.slot k = x at *
    clear hx
    have H1 := hid (H.out.rsetL x)
    have c28 : (w.setCell ⟨b, 28, none⟩ (.int .i64 x)).cell? ⟨b, 28, none⟩ = some (.int .i64 x) := H1.out.cl
    have fk := H1.out.at_.free k
    go_enter Tryz.func60, Tryz.ntmps60
    go_wp2
    go_region
    go_wp2
    go_end0
    rw [HU.out]
    exact ⟨rfl, _, (H1.out.rkeep HK.out _).drew, Steps.grown (Steps.refl b v w) (grown_drew (grown_trans (grown_set _ _ _ _) (grown_set _ _ _ _)))⟩
  · have HU : Hid (s.low k = s.keep k s.l) := hid (by unfold St.low St.lowL; rw [if_neg hl]; rfl)
    have hl' : (s.l == 0) = false := beq_false hl
    have fk := H.out.at_.free k
    clear hl
    generalize hx : s.l = x at *
    clear hx
    go_enter Tryz.func60, Tryz.ntmps60
    go_wp2
    go_region
    go_wp2
    go_end0
    rw [HU.out]
    exact ⟨rfl, _, (H.out.rkeep HK.out _).drew, Steps.grown (Steps.refl b v w) (grown_drew (grown_set _ _ _ _))⟩
theorem rpan (x : Int) (w : World) (h0 : 0 ≤ x) (h1 : x ≤ 100000) : Calls Tryz.prog 54 #[.int .i64 x] w fun e w' => e = .returned (.int .i64 (panV x)) ∧ w = w' := by
  go_enter Tryz.func54, Tryz.ntmps54
  go_wp2
  go_ret
  exact ⟨rfl, rfl⟩
end
end Go.Proofs.YtkpielgdfahanaaGreat
