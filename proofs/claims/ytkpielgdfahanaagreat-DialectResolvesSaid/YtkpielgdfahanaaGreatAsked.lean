/- Table.asked: a cell resolved. -/
import Derived.Test.YtkpielgdfahanaaGreatLasting
import Derived.Test.YtkpielgdfahanaaGreatEff2
import Derived.Deep.Cut
/- The asking that a cell's resolving begins with. -/
namespace Go.Proofs.YtkpielgdfahanaaGreat
open Go.RowKit Go.Maps
theorem built69 (m0 m1 m2 m3 m4 m5 m6 m7 m8 m9 m10 m11 m12 m13 m14 m15 m16 m17 m18 m19 m20 m21 m22 m23 m24 m25 d : Int) : Tryz.prog.built 69 [(0, .agg #[.int .i64 m0, .int .i64 m1, .int .i64 m2, .int .i64 m3, .int .i64 m4, .int .i64 m5, .int .i64 m6, .int .i64 m7, .int .i64 m8, .int .i64 m9, .int .i64 m10, .int .i64 m11, .int .i64 m12, .int .i64 m13, .int .i64 m14, .int .i64 m15, .int .i64 m16, .int .i64 m17, .int .i64 m18, .int .i64 m19, .int .i64 m20, .int .i64 m21, .int .i64 m22, .int .i64 m23, .int .i64 m24, .int .i64 m25]), (1, .int .i64 d)] = some #[.int .i64 m0, .int .i64 m1, .int .i64 m2, .int .i64 m3, .int .i64 m4, .int .i64 m5, .int .i64 m6, .int .i64 m7, .int .i64 m8, .int .i64 m9, .int .i64 m10, .int .i64 m11, .int .i64 m12, .int .i64 m13, .int .i64 m14, .int .i64 m15, .int .i64 m16, .int .i64 m17, .int .i64 m18, .int .i64 m19, .int .i64 m20, .int .i64 m21, .int .i64 m22, .int .i64 m23, .int .i64 m24, .int .i64 m25, .int .i64 d, .int .i64 0, .int .i64 0, .int .i64 0, .slice none 0 0, .bool false] := by kernel_rfl
theorem list26 (M : List Int) (h : M.length = 26) : ∃ m0 m1 m2 m3 m4 m5 m6 m7 m8 m9 m10 m11 m12 m13 m14 m15 m16 m17 m18 m19 m20 m21 m22 m23 m24 m25 : Int, M = [m0, m1, m2, m3, m4, m5, m6, m7, m8, m9, m10, m11, m12, m13, m14, m15, m16, m17, m18, m19, m20, m21, m22, m23, m24, m25] := by
  match M, h with
  | [m0, m1, m2, m3, m4, m5, m6, m7, m8, m9, m10, m11, m12, m13, m14, m15, m16, m17, m18, m19, m20, m21, m22, m23, m24, m25], _ => exact ⟨m0, m1, m2, m3, m4, m5, m6, m7, m8, m9, m10, m11, m12, m13, m14, m15, m16, m17, m18, m19, m20, m21, m22, m23, m24, m25, rfl⟩
def memV (M : List Int) : Array Value := (M.map (Value.int .i64)).toArray
def ask0 (M : List Int) (d : Int) : Array Value := ((M ++ [d, 0, 0, 0]).map (Value.int .i64) ++ [Value.slice none 0 0, Value.bool false]).toArray
theorem built_ask (M : List Int) (hM : M.length = 26) (d : Int) : Tryz.prog.built 69 [(0, .agg (memV M)), (1, .int .i64 d)] = some (ask0 M d) := by
  obtain ⟨m0, m1, m2, m3, m4, m5, m6, m7, m8, m9, m10, m11, m12, m13, m14, m15, m16, m17, m18, m19, m20, m21, m22, m23, m24, m25, rfl⟩ := list26 M hM
  exact built69 m0 m1 m2 m3 m4 m5 m6 m7 m8 m9 m10 m11 m12 m13 m14 m15 m16 m17 m18 m19 m20 m21 m22 m23 m24 m25 d
/-- The state that an asking begins with. -/
def st0 (M : List Int) : St := ⟨M, 0, 0, 0, []⟩
theorem PAt.init {b base : Nat} {d : Int} {M : List Int} {w : World} (hM : M.length = 26) (hb : w.heap[b]? = some (.cells (ask0 M d) 69 (0, 0))) (h : base ≤ b) : PAt b base d (st0 M) (.slice none 0 0) false w :=
  ⟨hM, ⟨⟨by simp [st0, hM], hb⟩, World.ownsRow_nil _ _ _ _, fun e => by cases e⟩, h⟩
/-- A memory that may be one. -/
structure MemOk (M : List Int) : Prop where
  len : M.length = 26
  slots : ∀ k, k < 24 → 0 ≤ M.getD k 0 ∧ M.getD k 0 ≤ 255
  eff : 0 ≤ M.getD 24 0 ∧ M.getD 24 0 ≤ 36
  par : 0 ≤ M.getD 25 0 ∧ M.getD 25 0 ≤ 255
theorem MemOk.ok {M : List Int} (h : MemOk M) : (st0 M).Ok 15 := ⟨h.len, h.slots, ⟨Int.le_refl 0, (by decide : (0 : Int) ≤ 255)⟩, ⟨Int.le_refl 0, (by decide : (0 : Int) ≤ 15)⟩, ⟨Int.le_refl 0, (by decide : (0 : Int) ≤ 15)⟩, Nat.zero_le 40⟩
end Go.Proofs.YtkpielgdfahanaaGreat
namespace Go.Proofs.YtkpielgdfahanaaGreat
open Go.RowKit Go.Maps
theorem size28 : (Tryz.prog.info? 28).map (·.size) = some 26 := by kernel_rfl
theorem memV_size {M : List Int} (h : M.length = 26) : (memV M).size = 26 := by simp [memV, h]
theorem ask0_size {M : List Int} (h : M.length = 26) (d : Int) : (ask0 M d).size = 32 := by simp [ask0, h]
theorem row_of_block {w : World} {g : Nat} {cs : Array Value} {t : TypeId} {fr : Nat × Nat} (h : w.heap[g]? = some (.cells cs t fr)) : RowAt w g 0 cs.toList := fun j v hj => by
  rw [Nat.zero_add, cell_of_row w g j cs t fr h]
  simpa using hj
/-- The three boxes that asked begins with. -/
structure Boxes (w : World) (M : List Int) (d note inst vc va e p : Int) (n0 n1 n2 : Nat) (w3 : World) : Prop where
  t0 : w3.heap[n0]? = some (.cells #[.int .i64 d, .map none] 53 (0, 0))
  t1 : w3.heap[n1]? = some (.cells (memV M) 28 (0, 0))
  t2 : w3.heap[n2]? = some (.cells #[.int .i64 note, .int .i64 inst, .int .i64 vc, .int .i64 va, .int .i64 e, .int .i64 p] 23 (0, 0))
  below : Below w.heap.size w w3
  le : w.heap.size ≤ n0 ∧ n0 < n1 ∧ n1 < n2 ∧ n2 < w3.heap.size
theorem Boxes.made (w : World) (M : List Int) (d note inst vc va e p : Int) : Boxes w M d note inst vc va e p w.heap.size (w.heap.size + 1) (w.heap.size + 1 + 1)
    (((w.alloc (.cells #[.int .i64 d, .map none] 53)).alloc (.cells (memV M) 28)).alloc (.cells #[.int .i64 note, .int .i64 inst, .int .i64 vc, .int .i64 va, .int .i64 e, .int .i64 p] 23)) := by
  refine ⟨?_, ?_, ?_, Below.grow (below2 w _ _) _, Nat.le_refl _, Nat.lt_succ_self _, Nat.lt_succ_self _, by simp⟩
  · exact ((below1 _ _).block _ (by simp <;> omega)).trans (((below1 _ _).block _ (by simp)).trans (heap_alloc_new w _))
  · refine ((below1 _ _).block _ (by simp)).trans ?_
    have := heap_alloc_new (w.alloc (.cells #[.int .i64 d, .map none] 53)) (.cells (memV M) 28)
    simpa using this
  · have := heap_alloc_new ((w.alloc (.cells #[.int .i64 d, .map none] 53)).alloc (.cells (memV M) 28)) (.cells #[.int .i64 note, .int .i64 inst, .int .i64 vc, .int .i64 va, .int .i64 e, .int .i64 p] 23)
    simpa using this
/-- The boxes that a resolving reads go on as they are. -/
structure Kept (b n0 n2 : Nat) (d note inst vc va e p : Int) (v : Value) (w : World) : Prop where
  t0 : w.heap[n0]? = some (.cells #[.int .i64 d, .map none] 53 (0, 0))
  t2 : w.heap[n2]? = some (.cells #[.int .i64 note, .int .i64 inst, .int .i64 vc, .int .i64 va, .int .i64 e, .int .i64 p] 23 (0, 0))
  ap : Apart (fun c => c = n0 ∨ c = n2) b v w
section
variable {b n0 n2 : Nat} {d note inst vc va e p : Int} {v v' : Value} {w w' : World}
theorem Kept.step (K : Kept b n0 n2 d note inst vc va e p v w) (g : Steps b v v' w w') : Kept b n0 n2 d note inst vc va e p v' w' :=
  ⟨(K.ap.same g n0 (Or.inl rfl) (K.ap n0 (Or.inl rfl)).2.2).trans K.t0, (K.ap.same g n2 (Or.inr rfl) (K.ap n2 (Or.inr rfl)).2.2).trans K.t2, K.ap.step g⟩
theorem Kept.a0 (K : Kept b n0 n2 d note inst vc va e p v w) : w.cell? ⟨n0, 0, none⟩ = some (.int .i64 d) := by rw [cell_of_row w n0 0 _ _ _ K.t0]; rfl
theorem Kept.a1 (K : Kept b n0 n2 d note inst vc va e p v w) : w.cell? ⟨n0, 1, none⟩ = some (.map none) := by rw [cell_of_row w n0 1 _ _ _ K.t0]; rfl
theorem Kept.c0 (K : Kept b n0 n2 d note inst vc va e p v w) : w.cell? ⟨n2, 0, none⟩ = some (.int .i64 note) := by rw [cell_of_row w n2 0 _ _ _ K.t2]; rfl
theorem Kept.c1 (K : Kept b n0 n2 d note inst vc va e p v w) : w.cell? ⟨n2, 1, none⟩ = some (.int .i64 inst) := by rw [cell_of_row w n2 1 _ _ _ K.t2]; rfl
theorem Kept.c2 (K : Kept b n0 n2 d note inst vc va e p v w) : w.cell? ⟨n2, 2, none⟩ = some (.int .i64 vc) := by rw [cell_of_row w n2 2 _ _ _ K.t2]; rfl
theorem Kept.c3 (K : Kept b n0 n2 d note inst vc va e p v w) : w.cell? ⟨n2, 3, none⟩ = some (.int .i64 va) := by rw [cell_of_row w n2 3 _ _ _ K.t2]; rfl
theorem Kept.c4 (K : Kept b n0 n2 d note inst vc va e p v w) : w.cell? ⟨n2, 4, none⟩ = some (.int .i64 e) := by rw [cell_of_row w n2 4 _ _ _ K.t2]; rfl
theorem Kept.c5 (K : Kept b n0 n2 d note inst vc va e p v w) : w.cell? ⟨n2, 5, none⟩ = some (.int .i64 p) := by rw [cell_of_row w n2 5 _ _ _ K.t2]; rfl
theorem Boxes.kept {M : List Int} {w3 : World} {n1 : Nat} (h : Boxes w M d note inst vc va e p n0 n1 n2 w3) : Kept w3.heap.size n0 n2 d note inst vc va e p (.slice none 0 0) (w3.alloc (.cells (ask0 M d) 69)) := by
  have := h.le
  refine ⟨((below1 _ _).block _ (by omega)).trans h.t0, ((below1 _ _).block _ (by omega)).trans h.t2, fun c hc => ⟨by omega, (fun e => by cases e), by simp; omega⟩⟩
theorem Below.of_steps {w0 : World} {b : Nat} (hb : Below w0.heap.size w0 w) (h : w0.heap.size ≤ b) (g : Steps b (.slice none 0 0) v' w w') : Below w0.heap.size w0 w' :=
  hb.trans ⟨g.os, g.tape, g.output, g.size, fun k hk => g.block k (by have := hb.size; omega) (by omega) (fun e => by cases e)⟩
end
/-- What asked hands back: an asking in a state with this memory and these operations. -/
def Askd (d : Int) (X : St) (w : World) (e : Ending) (w' : World) : Prop :=
  ∃ b v rc s', e = .returned (.pointer (some ⟨b, 0, none⟩)) ∧ PAt b w.heap.size d s' v rc w' ∧ s'.M = X.M ∧ s'.O = X.O ∧ Below w.heap.size w w'
/-- A memory and operations that may go on. -/
structure Mid (s : St) : Prop where
  len : s.M.length = 26
  slots : ∀ k, k < 24 → 0 ≤ s.slot k ∧ s.slot k ≤ 255
  O : s.O.length ≤ 10
theorem Mid.put {s : St} (h : Mid s) {p : Int} (h0 : 0 ≤ p) (h1 : p ≤ 255) : (s.put p).Ok 15 :=
  ⟨h.len, h.slots, ⟨h0, h1⟩, by show 0 ≤ p / 16 ∧ p / 16 ≤ 15; omega, by show 0 ≤ p % 16 ∧ p % 16 ≤ 15; omega, by have := h.O; show s.O.length ≤ 40; omega⟩
theorem colE_left (fast : Bool) (cmd arg : Int) {s : St} (h : s.Ok 15) (a0 : 0 ≤ arg) : St.After 1 s (colE fast cmd arg s) := by
  have a1 : ∀ n x y, St.After 1 s (s.ask n x y) := fun n x y => (h.after 0).ask n x y
  have a3 : ∀ (q : Int) (k : Nat), 0 ≤ q → q ≤ 255 → k < 24 → ∀ x y z, St.After 1 s (((s.put q).whole k).ask x y z) := fun q k h0 h1 hk x y z => ((h.put_left q).trans ((h.put h0 h1).whole_left hk)).ask x y z
  have a4 : ∀ (q : Int) (k : Nat), 0 ≤ q → q ≤ 255 → k < 24 → ∀ x y z, St.After 1 s (((s.put q).halves k).ask x y z) := fun q k h0 h1 hk x y z => ((h.put_left q).trans ((h.put h0 h1).halves_left hk)).ask x y z
  have hT := colT_range (min arg 9)
  unfold colE
  refine ite_after (a1 _ _ _) (ite_after (a1 _ _ _) (ite_after (a1 _ _ _) (ite_after (a1 _ _ _) (ite_after (a1 _ _ _) (ite_after (a1 _ _ _) (ite_after ?_ (ite_after ?_ (ite_after (a1 _ _ _) (ite_after (a1 _ _ _) (h.after 1))))))))))
  · cases fast
    · exact a3 _ 2 hT.1 hT.2 (by decide) _ _ _
    · exact a3 _ 1 (by omega) (by omega) (by decide) _ _ _
  · cases fast
    · exact a4 _ 3 (by omega) (by omega) (by decide) _ _ _
    · exact a4 _ 2 (by omega) (by omega) (by decide) _ _ _
set_option maxHeartbeats 4000000 in
set_option maxRecDepth 10000 in
theorem asked_0z (M : List Int) (d note inst vc va e p : Int) (m : MemOk M) (e0 : 0 ≤ e) (e1 : e ≤ 36) (p0 : 0 ≤ p) (p1 : p ≤ 255) (d1 : 1 ≤ d) (d6 : d ≤ 6) (hv : ¬ 0 < vc) (hd : (d == 5) = false) (hE : ¬ 0 < e) (w : World) :
    Calls Tryz.prog 38 #[.agg #[.int .i64 d, .map none], .agg (memV M), .agg #[.int .i64 note, .int .i64 inst, .int .i64 vc, .int .i64 va, .int .i64 e, .int .i64 p]] w (Askd d (st0 M) w) := by
  have HM := hid m
  have HB := hid (built_ask M m.len d)
  have HX := hid (Boxes.made w M d note inst vc va e p)
  have HE := hid (And.intro e0 e1)
  have HP := hid (And.intro p0 p1)
  have HD := hid (And.intro d1 d6)
  have HEE := HE
  have HPP := HP
  clear m e0 e1 p0 p1 d1 d6
  go_enter Tryz.func38, Tryz.ntmps38
  go_upto_region 1 with (fail)
  generalize ((w.alloc (.cells #[.int .i64 d, .map none] 53)).alloc (.cells (memV M) 28)).alloc (.cells #[.int .i64 note, .int .i64 inst, .int .i64 vc, .int .i64 va, .int .i64 e, .int .i64 p] 23) = w3 at *
  generalize w.heap.size + 1 + 1 = n2 at *
  generalize w.heap.size + 1 = n1 at *
  obtain ⟨n0, hn0⟩ : ∃ n0, n0 = w.heap.size := ⟨_, rfl⟩
  have HX0 : Hid (Boxes w M d note inst vc va e p n0 n1 n2 w3) := by rw [hn0]; exact HX
  have HN0 : Hid (w.heap.size ≤ n0) := hid (by omega)
  rw [← hn0]
  clear HX hn0
  have HR1 := hid (row_of_block HX0.out.t1)
  have q0 := cell_of_row w3 n0 0 _ _ _ HX0.out.t0
  have hz : n2 < w3.heap.size := HX0.out.le.2.2.2
  have hz0 : n0 < w3.heap.size := by have := HX0.out.le; omega
  go_upto_region 2 with (first
    | (refine wpList_load_at rfl 28 _ rfl n1 0 rfl (memV M) _ HR1.out Tryz.underlying28 rfl (by rw [memV_size HM.out.len]; exact size28) ?_)
    | (refine wpList_build_to rfl 69 _ rfl (ask0 M d) (Eq.trans (b := Tryz.prog.built 69 [(0, .agg (memV M)), (1, .int .i64 d)]) (by kernel_rfl) HB.out) ?_))
  have K := hid HX0.out.kept
  have HBel := hid (Below.step HX0.out.below (below1 w3 (.cells (ask0 M d) 69)))
  have HPA : Hid (PAt w3.heap.size w.heap.size d (st0 M) (.slice none 0 0) false (w3.alloc (.cells (ask0 M d) 69))) := hid (PAt.init HM.out.len (heap_alloc_new w3 _) (by have := HX0.out.below.size; omega))
  have HLe : Hid (w.heap.size ≤ w3.heap.size) := hid HX0.out.below.size
  clear HX0 HR1 HB q0 hz hz0
  generalize w3.alloc (.cells (ask0 M d) 69) = w4 at *
  generalize w3.heap.size = b at *
  obtain ⟨v0, hv0⟩ : ∃ v0 : Value, v0 = .slice none 0 0 := ⟨_, rfl⟩
  rw [← hv0] at K HPA
  have G : Hid (Steps b (.slice none 0 0) v0 w4 w4) := hid (by rw [hv0]; exact Steps.refl b _ w4)
  clear hv0
  have a0 := K.out.a0
  have k2 := K.out.c2
  have k3 := K.out.c3
  have k4 := K.out.c4
  have k5 := K.out.c5
  go_wp2
  go_quiet (fail)
  replace HPA := hid (HPA.out.drewN nq)
  replace K := hid (K.out.step (Steps.quiet b _ w4 nq))
  replace G := hid (G.out.trans (Steps.quiet b _ w4 nq))
  generalize w4.drewN nq = wq at *
  replace a0 := K.out.a0
  replace k2 := K.out.c2
  replace k3 := K.out.c3
  replace k4 := K.out.c4
  replace k5 := K.out.c5
  go_wp2
  go_ret
  exact ⟨b, _, _, _, rfl, HPA.out, rfl, rfl, Below.of_steps HBel.out HLe.out G.out⟩
set_option maxHeartbeats 4000000 in
set_option maxRecDepth 10000 in
theorem asked_0n (M : List Int) (d note inst vc va e p : Int) (m : MemOk M) (e0 : 0 ≤ e) (e1 : e ≤ 36) (p0 : 0 ≤ p) (p1 : p ≤ 255) (d1 : 1 ≤ d) (d6 : d ≤ 6) (hv : ¬ 0 < vc) (hd : (d == 5) = false) (hE : 0 < e) (hG : dialG d (letN e) = .nil) (hMid : Mid (st0 M)) (w : World) :
    Calls Tryz.prog 38 #[.agg #[.int .i64 d, .map none], .agg (memV M), .agg #[.int .i64 note, .int .i64 inst, .int .i64 vc, .int .i64 va, .int .i64 e, .int .i64 p]] w (Askd d (runE (dialG d (letN e)) ((st0 M).put p)) w) := by
  have HM := hid m
  have HB := hid (built_ask M m.len d)
  have HX := hid (Boxes.made w M d note inst vc va e p)
  have HE := hid (And.intro e0 e1)
  have HP := hid (And.intro p0 p1)
  have HD := hid (And.intro d1 d6)
  have HEE := HE
  have HPP := HP
  have HG := hid hG
  have HMid := hid hMid
  clear m e0 e1 p0 p1 d1 d6 hG hMid
  go_enter Tryz.func38, Tryz.ntmps38
  go_upto_region 1 with (fail)
  generalize ((w.alloc (.cells #[.int .i64 d, .map none] 53)).alloc (.cells (memV M) 28)).alloc (.cells #[.int .i64 note, .int .i64 inst, .int .i64 vc, .int .i64 va, .int .i64 e, .int .i64 p] 23) = w3 at *
  generalize w.heap.size + 1 + 1 = n2 at *
  generalize w.heap.size + 1 = n1 at *
  obtain ⟨n0, hn0⟩ : ∃ n0, n0 = w.heap.size := ⟨_, rfl⟩
  have HX0 : Hid (Boxes w M d note inst vc va e p n0 n1 n2 w3) := by rw [hn0]; exact HX
  have HN0 : Hid (w.heap.size ≤ n0) := hid (by omega)
  rw [← hn0]
  clear HX hn0
  have HR1 := hid (row_of_block HX0.out.t1)
  have q0 := cell_of_row w3 n0 0 _ _ _ HX0.out.t0
  have hz : n2 < w3.heap.size := HX0.out.le.2.2.2
  have hz0 : n0 < w3.heap.size := by have := HX0.out.le; omega
  go_upto_region 2 with (first
    | (refine wpList_load_at rfl 28 _ rfl n1 0 rfl (memV M) _ HR1.out Tryz.underlying28 rfl (by rw [memV_size HM.out.len]; exact size28) ?_)
    | (refine wpList_build_to rfl 69 _ rfl (ask0 M d) (Eq.trans (b := Tryz.prog.built 69 [(0, .agg (memV M)), (1, .int .i64 d)]) (by kernel_rfl) HB.out) ?_))
  have K := hid HX0.out.kept
  have HBel := hid (Below.step HX0.out.below (below1 w3 (.cells (ask0 M d) 69)))
  have HPA : Hid (PAt w3.heap.size w.heap.size d (st0 M) (.slice none 0 0) false (w3.alloc (.cells (ask0 M d) 69))) := hid (PAt.init HM.out.len (heap_alloc_new w3 _) (by have := HX0.out.below.size; omega))
  have HLe : Hid (w.heap.size ≤ w3.heap.size) := hid HX0.out.below.size
  clear HX0 HR1 HB q0 hz hz0
  generalize w3.alloc (.cells (ask0 M d) 69) = w4 at *
  generalize w3.heap.size = b at *
  obtain ⟨v0, hv0⟩ : ∃ v0 : Value, v0 = .slice none 0 0 := ⟨_, rfl⟩
  rw [← hv0] at K HPA
  have G : Hid (Steps b (.slice none 0 0) v0 w4 w4) := hid (by rw [hv0]; exact Steps.refl b _ w4)
  clear hv0
  have a0 := K.out.a0
  have k2 := K.out.c2
  have k3 := K.out.c3
  have k4 := K.out.c4
  have k5 := K.out.c5
  go_wp2
  go_quiet (fail)
  replace HPA := hid (HPA.out.drewN nq)
  replace K := hid (K.out.step (Steps.quiet b _ w4 nq))
  replace G := hid (G.out.trans (Steps.quiet b _ w4 nq))
  generalize w4.drewN nq = wq at *
  replace a0 := K.out.a0
  replace k2 := K.out.c2
  replace k3 := K.out.c3
  replace k4 := K.out.c4
  replace k5 := K.out.c5
  have a1 := K.out.a1
  go_wp2_with fail
  go_at_call 52
  refine (geffect d e HD.out.1 HD.out.2 (by omega) HEE.out.2 _).mono ?_
  rintro x w7 ⟨fv, pp, rfl, hl, hp, hb⟩
  rw [HG.out] at hl
  obtain rfl : fv = .nilFunc := hl
  have hnn : ∀ w : World, (binOp .neq 77 .nilFunc .nilFunc).run Tryz.prog w = .ok (.bool false) w := fun _ => by rfl
  have HPA2 := hid (HPA.out.later hb)
  have G2 := hid (G.out.trans (Steps.below b _ hb))
  clear hp hb a0 a1 k2 k3 k4 k5
  go_wp2
  go_ret
  exact ⟨b, _, _, _, rfl, HPA2.out, by rw [HG.out]; rfl, by rw [HG.out]; rfl, Below.of_steps HBel.out HLe.out G2.out⟩
set_option maxHeartbeats 4000000 in
set_option maxRecDepth 10000 in
theorem asked_0f (M : List Int) (d note inst vc va e p : Int) (m : MemOk M) (e0 : 0 ≤ e) (e1 : e ≤ 36) (p0 : 0 ≤ p) (p1 : p ≤ 255) (d1 : 1 ≤ d) (d6 : d ≤ 6) (hv : ¬ 0 < vc) (hd : (d == 5) = false) (hE : 0 < e) (hG : dialG d (letN e) ≠ .nil) (hMid : Mid (st0 M)) (w : World) :
    Calls Tryz.prog 38 #[.agg #[.int .i64 d, .map none], .agg (memV M), .agg #[.int .i64 note, .int .i64 inst, .int .i64 vc, .int .i64 va, .int .i64 e, .int .i64 p]] w (Askd d (runE (dialG d (letN e)) ((st0 M).put p)) w) := by
  have HM := hid m
  have HB := hid (built_ask M m.len d)
  have HX := hid (Boxes.made w M d note inst vc va e p)
  have HE := hid (And.intro e0 e1)
  have HP := hid (And.intro p0 p1)
  have HD := hid (And.intro d1 d6)
  have HEE := HE
  have HPP := HP
  have HG := hid hG
  have HMid := hid hMid
  clear m e0 e1 p0 p1 d1 d6 hG hMid
  go_enter Tryz.func38, Tryz.ntmps38
  go_upto_region 1 with (fail)
  generalize ((w.alloc (.cells #[.int .i64 d, .map none] 53)).alloc (.cells (memV M) 28)).alloc (.cells #[.int .i64 note, .int .i64 inst, .int .i64 vc, .int .i64 va, .int .i64 e, .int .i64 p] 23) = w3 at *
  generalize w.heap.size + 1 + 1 = n2 at *
  generalize w.heap.size + 1 = n1 at *
  obtain ⟨n0, hn0⟩ : ∃ n0, n0 = w.heap.size := ⟨_, rfl⟩
  have HX0 : Hid (Boxes w M d note inst vc va e p n0 n1 n2 w3) := by rw [hn0]; exact HX
  have HN0 : Hid (w.heap.size ≤ n0) := hid (by omega)
  rw [← hn0]
  clear HX hn0
  have HR1 := hid (row_of_block HX0.out.t1)
  have q0 := cell_of_row w3 n0 0 _ _ _ HX0.out.t0
  have hz : n2 < w3.heap.size := HX0.out.le.2.2.2
  have hz0 : n0 < w3.heap.size := by have := HX0.out.le; omega
  go_upto_region 2 with (first
    | (refine wpList_load_at rfl 28 _ rfl n1 0 rfl (memV M) _ HR1.out Tryz.underlying28 rfl (by rw [memV_size HM.out.len]; exact size28) ?_)
    | (refine wpList_build_to rfl 69 _ rfl (ask0 M d) (Eq.trans (b := Tryz.prog.built 69 [(0, .agg (memV M)), (1, .int .i64 d)]) (by kernel_rfl) HB.out) ?_))
  have K := hid HX0.out.kept
  have HBel := hid (Below.step HX0.out.below (below1 w3 (.cells (ask0 M d) 69)))
  have HPA : Hid (PAt w3.heap.size w.heap.size d (st0 M) (.slice none 0 0) false (w3.alloc (.cells (ask0 M d) 69))) := hid (PAt.init HM.out.len (heap_alloc_new w3 _) (by have := HX0.out.below.size; omega))
  have HLe : Hid (w.heap.size ≤ w3.heap.size) := hid HX0.out.below.size
  clear HX0 HR1 HB q0 hz hz0
  generalize w3.alloc (.cells (ask0 M d) 69) = w4 at *
  generalize w3.heap.size = b at *
  obtain ⟨v0, hv0⟩ : ∃ v0 : Value, v0 = .slice none 0 0 := ⟨_, rfl⟩
  rw [← hv0] at K HPA
  have G : Hid (Steps b (.slice none 0 0) v0 w4 w4) := hid (by rw [hv0]; exact Steps.refl b _ w4)
  clear hv0
  have a0 := K.out.a0
  have k2 := K.out.c2
  have k3 := K.out.c3
  have k4 := K.out.c4
  have k5 := K.out.c5
  go_wp2
  go_quiet (fail)
  replace HPA := hid (HPA.out.drewN nq)
  replace K := hid (K.out.step (Steps.quiet b _ w4 nq))
  replace G := hid (G.out.trans (Steps.quiet b _ w4 nq))
  generalize w4.drewN nq = wq at *
  replace a0 := K.out.a0
  replace k2 := K.out.c2
  replace k3 := K.out.c3
  replace k4 := K.out.c4
  replace k5 := K.out.c5
  have a1 := K.out.a1
  go_wp2_with fail
  go_at_call 52
  refine (geffect d e HD.out.1 HD.out.2 (by omega) HEE.out.2 _).mono ?_
  rintro x w7 ⟨fv, pp, rfl, hl, hp, hb⟩
  obtain ⟨n, cap, rfl⟩ := hl.clo HG.out
  have hnn : ∀ (cap : Array Value) (n : Nat) (w : World), (binOp .neq 77 (.func (.func n) #[] cap) .nilFunc).run Tryz.prog w = .ok (.bool true) w := fun _ _ _ => by rfl
  have HPA2 := hid (HPA.out.later hb)
  have AP : Hid (Apart pp b _ w7) := hid (fun c hc => ⟨by have := (hp c hc).1; have := HPA.out.asks.at_.lt; omega, fun e => by have := (hp c hc).1; have := HPA.out.own_lt e; omega, (hp c hc).2⟩)
  have HL := hid hl
  replace G := hid (G.out.trans (Steps.below b _ hb))
  clear hl hp hb a0 a1 k2 k3 k4 k5
  go_wp2_with fail
  go_at_call 53
  refine (pput p HPA2.out HPP.out.1 HPP.out.2).mono ?_
  rintro x w8 ⟨rfl, v8, r8, k, g⟩
  obtain ⟨ent, hrun⟩ := run_eff _ _ _ _ _ _ _ (dialG_wf _ _) (Lies.keep (AP.out.same g) _ _ HL.out) (AP.out.step g) k (HMid.out.put HPP.out.1 HPP.out.2)
  have HRUN := hid hrun
  replace G := hid (G.out.trans g)
  clear k g hrun
  go_wp2_with fail
  refine HRUN.out.mono ?_
  rintro x w9 ⟨rfl, v9, r9, k, g⟩
  have HPA3 := hid k
  replace G := hid (G.out.trans g)
  clear k g ent hnn
  go_wp2
  go_ret
  exact ⟨b, _, _, _, rfl, HPA3.out, rfl, rfl, Below.of_steps HBel.out HLe.out G.out⟩
set_option maxHeartbeats 4000000 in
set_option maxRecDepth 10000 in
theorem asked_cz (M : List Int) (d note inst vc va e p : Int) (m : MemOk M) (e0 : 0 ≤ e) (e1 : e ≤ 36) (p0 : 0 ≤ p) (p1 : p ≤ 255) (d1 : 1 ≤ d) (d6 : d ≤ 6) (hv : 0 < vc) (hv2 : vc ≤ 10) (a0 : 0 ≤ va) (a1 : va ≤ 99) (hd : (d == 5) = false) (hE : ¬ 0 < e) (w : World) :
    Calls Tryz.prog 38 #[.agg #[.int .i64 d, .map none], .agg (memV M), .agg #[.int .i64 note, .int .i64 inst, .int .i64 vc, .int .i64 va, .int .i64 e, .int .i64 p]] w (Askd d (colE (d == 3) vc va (st0 M)) w) := by
  have HM := hid m
  have HB := hid (built_ask M m.len d)
  have HX := hid (Boxes.made w M d note inst vc va e p)
  have HE := hid (And.intro e0 e1)
  have HP := hid (And.intro p0 p1)
  have HD := hid (And.intro d1 d6)
  have HV := hid (And.intro hv hv2)
  have HA := hid (And.intro a0 a1)
  have HEE := HE
  have HPP := HP
  clear m e0 e1 p0 p1 d1 d6 hv2 a0 a1
  go_enter Tryz.func38, Tryz.ntmps38
  go_upto_region 1 with (fail)
  generalize ((w.alloc (.cells #[.int .i64 d, .map none] 53)).alloc (.cells (memV M) 28)).alloc (.cells #[.int .i64 note, .int .i64 inst, .int .i64 vc, .int .i64 va, .int .i64 e, .int .i64 p] 23) = w3 at *
  generalize w.heap.size + 1 + 1 = n2 at *
  generalize w.heap.size + 1 = n1 at *
  obtain ⟨n0, hn0⟩ : ∃ n0, n0 = w.heap.size := ⟨_, rfl⟩
  have HX0 : Hid (Boxes w M d note inst vc va e p n0 n1 n2 w3) := by rw [hn0]; exact HX
  have HN0 : Hid (w.heap.size ≤ n0) := hid (by omega)
  rw [← hn0]
  clear HX hn0
  have HR1 := hid (row_of_block HX0.out.t1)
  have q0 := cell_of_row w3 n0 0 _ _ _ HX0.out.t0
  have hz : n2 < w3.heap.size := HX0.out.le.2.2.2
  have hz0 : n0 < w3.heap.size := by have := HX0.out.le; omega
  go_upto_region 2 with (first
    | (refine wpList_load_at rfl 28 _ rfl n1 0 rfl (memV M) _ HR1.out Tryz.underlying28 rfl (by rw [memV_size HM.out.len]; exact size28) ?_)
    | (refine wpList_build_to rfl 69 _ rfl (ask0 M d) (Eq.trans (b := Tryz.prog.built 69 [(0, .agg (memV M)), (1, .int .i64 d)]) (by kernel_rfl) HB.out) ?_))
  have K := hid HX0.out.kept
  have HBel := hid (Below.step HX0.out.below (below1 w3 (.cells (ask0 M d) 69)))
  have HPA : Hid (PAt w3.heap.size w.heap.size d (st0 M) (.slice none 0 0) false (w3.alloc (.cells (ask0 M d) 69))) := hid (PAt.init HM.out.len (heap_alloc_new w3 _) (by have := HX0.out.below.size; omega))
  have HLe : Hid (w.heap.size ≤ w3.heap.size) := hid HX0.out.below.size
  clear HX0 HR1 HB q0 hz hz0
  generalize w3.alloc (.cells (ask0 M d) 69) = w4 at *
  generalize w3.heap.size = b at *
  obtain ⟨v0, hv0⟩ : ∃ v0 : Value, v0 = .slice none 0 0 := ⟨_, rfl⟩
  rw [← hv0] at K HPA
  have G : Hid (Steps b (.slice none 0 0) v0 w4 w4) := hid (by rw [hv0]; exact Steps.refl b _ w4)
  clear hv0
  have a0 := K.out.a0
  have k2 := K.out.c2
  have k3 := K.out.c3
  have k4 := K.out.c4
  have k5 := K.out.c5
  go_wp2_with fail
  go_at_call 50
  refine (pcolumn (d == 3) rfl vc va (by have := HV.out; omega) HV.out.2 HA.out.1 HA.out.2 HPA.out HM.out.ok).mono ?_
  rintro x w5 ⟨rfl, v5, r5, k, g⟩
  replace HPA := hid k
  replace K := hid (K.out.step g)
  replace G := hid (G.out.trans g)
  clear k g
  replace a0 := K.out.a0
  replace k2 := K.out.c2
  replace k3 := K.out.c3
  replace k4 := K.out.c4
  replace k5 := K.out.c5
  go_wp2
  go_quiet (fail)
  replace HPA := hid (HPA.out.drewN nq)
  replace K := hid (K.out.step (Steps.quiet b _ w5 nq))
  replace G := hid (G.out.trans (Steps.quiet b _ w5 nq))
  generalize w5.drewN nq = wq at *
  replace a0 := K.out.a0
  replace k2 := K.out.c2
  replace k3 := K.out.c3
  replace k4 := K.out.c4
  replace k5 := K.out.c5
  go_wp2
  go_ret
  exact ⟨b, _, _, _, rfl, HPA.out, rfl, rfl, Below.of_steps HBel.out HLe.out G.out⟩
set_option maxHeartbeats 4000000 in
set_option maxRecDepth 10000 in
theorem asked_cn (M : List Int) (d note inst vc va e p : Int) (m : MemOk M) (e0 : 0 ≤ e) (e1 : e ≤ 36) (p0 : 0 ≤ p) (p1 : p ≤ 255) (d1 : 1 ≤ d) (d6 : d ≤ 6) (hv : 0 < vc) (hv2 : vc ≤ 10) (a0 : 0 ≤ va) (a1 : va ≤ 99) (hd : (d == 5) = false) (hE : 0 < e) (hG : dialG d (letN e) = .nil) (hMid : Mid (colE (d == 3) vc va (st0 M))) (w : World) :
    Calls Tryz.prog 38 #[.agg #[.int .i64 d, .map none], .agg (memV M), .agg #[.int .i64 note, .int .i64 inst, .int .i64 vc, .int .i64 va, .int .i64 e, .int .i64 p]] w (Askd d (runE (dialG d (letN e)) ((colE (d == 3) vc va (st0 M)).put p)) w) := by
  have HM := hid m
  have HB := hid (built_ask M m.len d)
  have HX := hid (Boxes.made w M d note inst vc va e p)
  have HE := hid (And.intro e0 e1)
  have HP := hid (And.intro p0 p1)
  have HD := hid (And.intro d1 d6)
  have HV := hid (And.intro hv hv2)
  have HA := hid (And.intro a0 a1)
  have HEE := HE
  have HPP := HP
  have HG := hid hG
  have HMid := hid hMid
  clear m e0 e1 p0 p1 d1 d6 hv2 a0 a1 hG hMid
  go_enter Tryz.func38, Tryz.ntmps38
  go_upto_region 1 with (fail)
  generalize ((w.alloc (.cells #[.int .i64 d, .map none] 53)).alloc (.cells (memV M) 28)).alloc (.cells #[.int .i64 note, .int .i64 inst, .int .i64 vc, .int .i64 va, .int .i64 e, .int .i64 p] 23) = w3 at *
  generalize w.heap.size + 1 + 1 = n2 at *
  generalize w.heap.size + 1 = n1 at *
  obtain ⟨n0, hn0⟩ : ∃ n0, n0 = w.heap.size := ⟨_, rfl⟩
  have HX0 : Hid (Boxes w M d note inst vc va e p n0 n1 n2 w3) := by rw [hn0]; exact HX
  have HN0 : Hid (w.heap.size ≤ n0) := hid (by omega)
  rw [← hn0]
  clear HX hn0
  have HR1 := hid (row_of_block HX0.out.t1)
  have q0 := cell_of_row w3 n0 0 _ _ _ HX0.out.t0
  have hz : n2 < w3.heap.size := HX0.out.le.2.2.2
  have hz0 : n0 < w3.heap.size := by have := HX0.out.le; omega
  go_upto_region 2 with (first
    | (refine wpList_load_at rfl 28 _ rfl n1 0 rfl (memV M) _ HR1.out Tryz.underlying28 rfl (by rw [memV_size HM.out.len]; exact size28) ?_)
    | (refine wpList_build_to rfl 69 _ rfl (ask0 M d) (Eq.trans (b := Tryz.prog.built 69 [(0, .agg (memV M)), (1, .int .i64 d)]) (by kernel_rfl) HB.out) ?_))
  have K := hid HX0.out.kept
  have HBel := hid (Below.step HX0.out.below (below1 w3 (.cells (ask0 M d) 69)))
  have HPA : Hid (PAt w3.heap.size w.heap.size d (st0 M) (.slice none 0 0) false (w3.alloc (.cells (ask0 M d) 69))) := hid (PAt.init HM.out.len (heap_alloc_new w3 _) (by have := HX0.out.below.size; omega))
  have HLe : Hid (w.heap.size ≤ w3.heap.size) := hid HX0.out.below.size
  clear HX0 HR1 HB q0 hz hz0
  generalize w3.alloc (.cells (ask0 M d) 69) = w4 at *
  generalize w3.heap.size = b at *
  obtain ⟨v0, hv0⟩ : ∃ v0 : Value, v0 = .slice none 0 0 := ⟨_, rfl⟩
  rw [← hv0] at K HPA
  have G : Hid (Steps b (.slice none 0 0) v0 w4 w4) := hid (by rw [hv0]; exact Steps.refl b _ w4)
  clear hv0
  have a0 := K.out.a0
  have k2 := K.out.c2
  have k3 := K.out.c3
  have k4 := K.out.c4
  have k5 := K.out.c5
  go_wp2_with fail
  go_at_call 50
  refine (pcolumn (d == 3) rfl vc va (by have := HV.out; omega) HV.out.2 HA.out.1 HA.out.2 HPA.out HM.out.ok).mono ?_
  rintro x w5 ⟨rfl, v5, r5, k, g⟩
  replace HPA := hid k
  replace K := hid (K.out.step g)
  replace G := hid (G.out.trans g)
  clear k g
  replace a0 := K.out.a0
  replace k2 := K.out.c2
  replace k3 := K.out.c3
  replace k4 := K.out.c4
  replace k5 := K.out.c5
  go_wp2
  go_quiet (fail)
  replace HPA := hid (HPA.out.drewN nq)
  replace K := hid (K.out.step (Steps.quiet b _ w5 nq))
  replace G := hid (G.out.trans (Steps.quiet b _ w5 nq))
  generalize w5.drewN nq = wq at *
  replace a0 := K.out.a0
  replace k2 := K.out.c2
  replace k3 := K.out.c3
  replace k4 := K.out.c4
  replace k5 := K.out.c5
  have a1 := K.out.a1
  go_wp2_with fail
  go_at_call 52
  refine (geffect d e HD.out.1 HD.out.2 (by omega) HEE.out.2 _).mono ?_
  rintro x w7 ⟨fv, pp, rfl, hl, hp, hb⟩
  rw [HG.out] at hl
  obtain rfl : fv = .nilFunc := hl
  have hnn : ∀ w : World, (binOp .neq 77 .nilFunc .nilFunc).run Tryz.prog w = .ok (.bool false) w := fun _ => by rfl
  have HPA2 := hid (HPA.out.later hb)
  have G2 := hid (G.out.trans (Steps.below b _ hb))
  clear hp hb a0 a1 k2 k3 k4 k5
  go_wp2
  go_ret
  exact ⟨b, _, _, _, rfl, HPA2.out, by rw [HG.out]; rfl, by rw [HG.out]; rfl, Below.of_steps HBel.out HLe.out G2.out⟩
set_option maxHeartbeats 4000000 in
set_option maxRecDepth 10000 in
theorem asked_cf (M : List Int) (d note inst vc va e p : Int) (m : MemOk M) (e0 : 0 ≤ e) (e1 : e ≤ 36) (p0 : 0 ≤ p) (p1 : p ≤ 255) (d1 : 1 ≤ d) (d6 : d ≤ 6) (hv : 0 < vc) (hv2 : vc ≤ 10) (a0 : 0 ≤ va) (a1 : va ≤ 99) (hd : (d == 5) = false) (hE : 0 < e) (hG : dialG d (letN e) ≠ .nil) (hMid : Mid (colE (d == 3) vc va (st0 M))) (w : World) :
    Calls Tryz.prog 38 #[.agg #[.int .i64 d, .map none], .agg (memV M), .agg #[.int .i64 note, .int .i64 inst, .int .i64 vc, .int .i64 va, .int .i64 e, .int .i64 p]] w (Askd d (runE (dialG d (letN e)) ((colE (d == 3) vc va (st0 M)).put p)) w) := by
  have HM := hid m
  have HB := hid (built_ask M m.len d)
  have HX := hid (Boxes.made w M d note inst vc va e p)
  have HE := hid (And.intro e0 e1)
  have HP := hid (And.intro p0 p1)
  have HD := hid (And.intro d1 d6)
  have HV := hid (And.intro hv hv2)
  have HA := hid (And.intro a0 a1)
  have HEE := HE
  have HPP := HP
  have HG := hid hG
  have HMid := hid hMid
  clear m e0 e1 p0 p1 d1 d6 hv2 a0 a1 hG hMid
  go_enter Tryz.func38, Tryz.ntmps38
  go_upto_region 1 with (fail)
  generalize ((w.alloc (.cells #[.int .i64 d, .map none] 53)).alloc (.cells (memV M) 28)).alloc (.cells #[.int .i64 note, .int .i64 inst, .int .i64 vc, .int .i64 va, .int .i64 e, .int .i64 p] 23) = w3 at *
  generalize w.heap.size + 1 + 1 = n2 at *
  generalize w.heap.size + 1 = n1 at *
  obtain ⟨n0, hn0⟩ : ∃ n0, n0 = w.heap.size := ⟨_, rfl⟩
  have HX0 : Hid (Boxes w M d note inst vc va e p n0 n1 n2 w3) := by rw [hn0]; exact HX
  have HN0 : Hid (w.heap.size ≤ n0) := hid (by omega)
  rw [← hn0]
  clear HX hn0
  have HR1 := hid (row_of_block HX0.out.t1)
  have q0 := cell_of_row w3 n0 0 _ _ _ HX0.out.t0
  have hz : n2 < w3.heap.size := HX0.out.le.2.2.2
  have hz0 : n0 < w3.heap.size := by have := HX0.out.le; omega
  go_upto_region 2 with (first
    | (refine wpList_load_at rfl 28 _ rfl n1 0 rfl (memV M) _ HR1.out Tryz.underlying28 rfl (by rw [memV_size HM.out.len]; exact size28) ?_)
    | (refine wpList_build_to rfl 69 _ rfl (ask0 M d) (Eq.trans (b := Tryz.prog.built 69 [(0, .agg (memV M)), (1, .int .i64 d)]) (by kernel_rfl) HB.out) ?_))
  have K := hid HX0.out.kept
  have HBel := hid (Below.step HX0.out.below (below1 w3 (.cells (ask0 M d) 69)))
  have HPA : Hid (PAt w3.heap.size w.heap.size d (st0 M) (.slice none 0 0) false (w3.alloc (.cells (ask0 M d) 69))) := hid (PAt.init HM.out.len (heap_alloc_new w3 _) (by have := HX0.out.below.size; omega))
  have HLe : Hid (w.heap.size ≤ w3.heap.size) := hid HX0.out.below.size
  clear HX0 HR1 HB q0 hz hz0
  generalize w3.alloc (.cells (ask0 M d) 69) = w4 at *
  generalize w3.heap.size = b at *
  obtain ⟨v0, hv0⟩ : ∃ v0 : Value, v0 = .slice none 0 0 := ⟨_, rfl⟩
  rw [← hv0] at K HPA
  have G : Hid (Steps b (.slice none 0 0) v0 w4 w4) := hid (by rw [hv0]; exact Steps.refl b _ w4)
  clear hv0
  have a0 := K.out.a0
  have k2 := K.out.c2
  have k3 := K.out.c3
  have k4 := K.out.c4
  have k5 := K.out.c5
  go_wp2_with fail
  go_at_call 50
  refine (pcolumn (d == 3) rfl vc va (by have := HV.out; omega) HV.out.2 HA.out.1 HA.out.2 HPA.out HM.out.ok).mono ?_
  rintro x w5 ⟨rfl, v5, r5, k, g⟩
  replace HPA := hid k
  replace K := hid (K.out.step g)
  replace G := hid (G.out.trans g)
  clear k g
  replace a0 := K.out.a0
  replace k2 := K.out.c2
  replace k3 := K.out.c3
  replace k4 := K.out.c4
  replace k5 := K.out.c5
  go_wp2
  go_quiet (fail)
  replace HPA := hid (HPA.out.drewN nq)
  replace K := hid (K.out.step (Steps.quiet b _ w5 nq))
  replace G := hid (G.out.trans (Steps.quiet b _ w5 nq))
  generalize w5.drewN nq = wq at *
  replace a0 := K.out.a0
  replace k2 := K.out.c2
  replace k3 := K.out.c3
  replace k4 := K.out.c4
  replace k5 := K.out.c5
  have a1 := K.out.a1
  go_wp2_with fail
  go_at_call 52
  refine (geffect d e HD.out.1 HD.out.2 (by omega) HEE.out.2 _).mono ?_
  rintro x w7 ⟨fv, pp, rfl, hl, hp, hb⟩
  obtain ⟨n, cap, rfl⟩ := hl.clo HG.out
  have hnn : ∀ (cap : Array Value) (n : Nat) (w : World), (binOp .neq 77 (.func (.func n) #[] cap) .nilFunc).run Tryz.prog w = .ok (.bool true) w := fun _ _ _ => by rfl
  have HPA2 := hid (HPA.out.later hb)
  have AP : Hid (Apart pp b _ w7) := hid (fun c hc => ⟨by have := (hp c hc).1; have := HPA.out.asks.at_.lt; omega, fun e => by have := (hp c hc).1; have := HPA.out.own_lt e; omega, (hp c hc).2⟩)
  have HL := hid hl
  replace G := hid (G.out.trans (Steps.below b _ hb))
  clear hl hp hb a0 a1 k2 k3 k4 k5
  go_wp2_with fail
  go_at_call 53
  refine (pput p HPA2.out HPP.out.1 HPP.out.2).mono ?_
  rintro x w8 ⟨rfl, v8, r8, k, g⟩
  obtain ⟨ent, hrun⟩ := run_eff _ _ _ _ _ _ _ (dialG_wf _ _) (Lies.keep (AP.out.same g) _ _ HL.out) (AP.out.step g) k (HMid.out.put HPP.out.1 HPP.out.2)
  have HRUN := hid hrun
  replace G := hid (G.out.trans g)
  clear k g hrun
  go_wp2_with fail
  refine HRUN.out.mono ?_
  rintro x w9 ⟨rfl, v9, r9, k, g⟩
  have HPA3 := hid k
  replace G := hid (G.out.trans g)
  clear k g ent hnn
  go_wp2
  go_ret
  exact ⟨b, _, _, _, rfl, HPA3.out, rfl, rfl, Below.of_steps HBel.out HLe.out G.out⟩
set_option maxHeartbeats 4000000 in
set_option maxRecDepth 10000 in
theorem asked_5z (M : List Int) (d note inst vc va e p : Int) (m : MemOk M) (e0 : 0 ≤ e) (e1 : e ≤ 36) (p0 : 0 ≤ p) (p1 : p ≤ 255) (d1 : 1 ≤ d) (d6 : d ≤ 6) (hv : ¬ 0 < vc) (hd : (d == 5) = true) (E P : Int) (hR : lastR note e p (st0 M) = (E, P)) (E0 : 0 ≤ E) (E1 : E ≤ 36) (P0 : 0 ≤ P) (P1 : P ≤ 255) (hE : ¬ 0 < E) (w : World) :
    Calls Tryz.prog 38 #[.agg #[.int .i64 d, .map none], .agg (memV M), .agg #[.int .i64 note, .int .i64 inst, .int .i64 vc, .int .i64 va, .int .i64 e, .int .i64 p]] w (Askd d (lastS note e p (st0 M)) w) := by
  have HM := hid m
  have HB := hid (built_ask M m.len d)
  have HX := hid (Boxes.made w M d note inst vc va e p)
  have HE := hid (And.intro e0 e1)
  have HP := hid (And.intro p0 p1)
  have HD := hid (And.intro d1 d6)
  have HR := hid hR
  have HEE := hid (And.intro E0 E1)
  have HPP := hid (And.intro P0 P1)
  clear m e0 e1 p0 p1 d1 d6 hR E0 E1 P0 P1
  go_enter Tryz.func38, Tryz.ntmps38
  go_upto_region 1 with (fail)
  generalize ((w.alloc (.cells #[.int .i64 d, .map none] 53)).alloc (.cells (memV M) 28)).alloc (.cells #[.int .i64 note, .int .i64 inst, .int .i64 vc, .int .i64 va, .int .i64 e, .int .i64 p] 23) = w3 at *
  generalize w.heap.size + 1 + 1 = n2 at *
  generalize w.heap.size + 1 = n1 at *
  obtain ⟨n0, hn0⟩ : ∃ n0, n0 = w.heap.size := ⟨_, rfl⟩
  have HX0 : Hid (Boxes w M d note inst vc va e p n0 n1 n2 w3) := by rw [hn0]; exact HX
  have HN0 : Hid (w.heap.size ≤ n0) := hid (by omega)
  rw [← hn0]
  clear HX hn0
  have HR1 := hid (row_of_block HX0.out.t1)
  have q0 := cell_of_row w3 n0 0 _ _ _ HX0.out.t0
  have hz : n2 < w3.heap.size := HX0.out.le.2.2.2
  have hz0 : n0 < w3.heap.size := by have := HX0.out.le; omega
  go_upto_region 2 with (first
    | (refine wpList_load_at rfl 28 _ rfl n1 0 rfl (memV M) _ HR1.out Tryz.underlying28 rfl (by rw [memV_size HM.out.len]; exact size28) ?_)
    | (refine wpList_build_to rfl 69 _ rfl (ask0 M d) (Eq.trans (b := Tryz.prog.built 69 [(0, .agg (memV M)), (1, .int .i64 d)]) (by kernel_rfl) HB.out) ?_))
  have K := hid HX0.out.kept
  have HBel := hid (Below.step HX0.out.below (below1 w3 (.cells (ask0 M d) 69)))
  have HPA : Hid (PAt w3.heap.size w.heap.size d (st0 M) (.slice none 0 0) false (w3.alloc (.cells (ask0 M d) 69))) := hid (PAt.init HM.out.len (heap_alloc_new w3 _) (by have := HX0.out.below.size; omega))
  have HLe : Hid (w.heap.size ≤ w3.heap.size) := hid HX0.out.below.size
  clear HX0 HR1 HB q0 hz hz0
  generalize w3.alloc (.cells (ask0 M d) 69) = w4 at *
  generalize w3.heap.size = b at *
  obtain ⟨v0, hv0⟩ : ∃ v0 : Value, v0 = .slice none 0 0 := ⟨_, rfl⟩
  rw [← hv0] at K HPA
  have G : Hid (Steps b (.slice none 0 0) v0 w4 w4) := hid (by rw [hv0]; exact Steps.refl b _ w4)
  clear hv0
  have a0 := K.out.a0
  have k2 := K.out.c2
  have k3 := K.out.c3
  have k4 := K.out.c4
  have k5 := K.out.c5
  go_wp2
  go_quiet (fail)
  replace HPA := hid (HPA.out.drewN nq)
  replace K := hid (K.out.step (Steps.quiet b _ w4 nq))
  replace G := hid (G.out.trans (Steps.quiet b _ w4 nq))
  generalize w4.drewN nq = wq at *
  replace a0 := K.out.a0
  replace k2 := K.out.c2
  replace k3 := K.out.c3
  replace k4 := K.out.c4
  replace k5 := K.out.c5
  have k0 := K.out.c0
  have k1 := K.out.c1
  go_wp2_with fail
  go_at_call 51
  refine (plasting (s := st0 M) note inst vc va e p HE.out.1 HE.out.2 HM.out.eff HPA.out).mono ?_
  rintro x w6 ⟨rfl, r6, k, g⟩
  rw [HR.out]
  replace HPA := hid k
  replace K := hid (K.out.step g)
  replace G := hid (G.out.trans g)
  clear k g
  replace a0 := K.out.a0
  replace k2 := K.out.c2
  replace k3 := K.out.c3
  replace k4 := K.out.c4
  replace k5 := K.out.c5
  clear k0 k1
  go_wp2
  go_ret
  exact ⟨b, _, _, _, rfl, HPA.out, rfl, rfl, Below.of_steps HBel.out HLe.out G.out⟩
set_option maxHeartbeats 4000000 in
set_option maxRecDepth 10000 in
theorem asked_5n (M : List Int) (d note inst vc va e p : Int) (m : MemOk M) (e0 : 0 ≤ e) (e1 : e ≤ 36) (p0 : 0 ≤ p) (p1 : p ≤ 255) (d1 : 1 ≤ d) (d6 : d ≤ 6) (hv : ¬ 0 < vc) (hd : (d == 5) = true) (E P : Int) (hR : lastR note e p (st0 M) = (E, P)) (E0 : 0 ≤ E) (E1 : E ≤ 36) (P0 : 0 ≤ P) (P1 : P ≤ 255) (hE : 0 < E) (hG : dialG d (letN E) = .nil) (hMid : Mid (lastS note e p (st0 M))) (w : World) :
    Calls Tryz.prog 38 #[.agg #[.int .i64 d, .map none], .agg (memV M), .agg #[.int .i64 note, .int .i64 inst, .int .i64 vc, .int .i64 va, .int .i64 e, .int .i64 p]] w (Askd d (runE (dialG d (letN E)) ((lastS note e p (st0 M)).put P)) w) := by
  have HM := hid m
  have HB := hid (built_ask M m.len d)
  have HX := hid (Boxes.made w M d note inst vc va e p)
  have HE := hid (And.intro e0 e1)
  have HP := hid (And.intro p0 p1)
  have HD := hid (And.intro d1 d6)
  have HR := hid hR
  have HEE := hid (And.intro E0 E1)
  have HPP := hid (And.intro P0 P1)
  have HG := hid hG
  have HMid := hid hMid
  clear m e0 e1 p0 p1 d1 d6 hR E0 E1 P0 P1 hG hMid
  go_enter Tryz.func38, Tryz.ntmps38
  go_upto_region 1 with (fail)
  generalize ((w.alloc (.cells #[.int .i64 d, .map none] 53)).alloc (.cells (memV M) 28)).alloc (.cells #[.int .i64 note, .int .i64 inst, .int .i64 vc, .int .i64 va, .int .i64 e, .int .i64 p] 23) = w3 at *
  generalize w.heap.size + 1 + 1 = n2 at *
  generalize w.heap.size + 1 = n1 at *
  obtain ⟨n0, hn0⟩ : ∃ n0, n0 = w.heap.size := ⟨_, rfl⟩
  have HX0 : Hid (Boxes w M d note inst vc va e p n0 n1 n2 w3) := by rw [hn0]; exact HX
  have HN0 : Hid (w.heap.size ≤ n0) := hid (by omega)
  rw [← hn0]
  clear HX hn0
  have HR1 := hid (row_of_block HX0.out.t1)
  have q0 := cell_of_row w3 n0 0 _ _ _ HX0.out.t0
  have hz : n2 < w3.heap.size := HX0.out.le.2.2.2
  have hz0 : n0 < w3.heap.size := by have := HX0.out.le; omega
  go_upto_region 2 with (first
    | (refine wpList_load_at rfl 28 _ rfl n1 0 rfl (memV M) _ HR1.out Tryz.underlying28 rfl (by rw [memV_size HM.out.len]; exact size28) ?_)
    | (refine wpList_build_to rfl 69 _ rfl (ask0 M d) (Eq.trans (b := Tryz.prog.built 69 [(0, .agg (memV M)), (1, .int .i64 d)]) (by kernel_rfl) HB.out) ?_))
  have K := hid HX0.out.kept
  have HBel := hid (Below.step HX0.out.below (below1 w3 (.cells (ask0 M d) 69)))
  have HPA : Hid (PAt w3.heap.size w.heap.size d (st0 M) (.slice none 0 0) false (w3.alloc (.cells (ask0 M d) 69))) := hid (PAt.init HM.out.len (heap_alloc_new w3 _) (by have := HX0.out.below.size; omega))
  have HLe : Hid (w.heap.size ≤ w3.heap.size) := hid HX0.out.below.size
  clear HX0 HR1 HB q0 hz hz0
  generalize w3.alloc (.cells (ask0 M d) 69) = w4 at *
  generalize w3.heap.size = b at *
  obtain ⟨v0, hv0⟩ : ∃ v0 : Value, v0 = .slice none 0 0 := ⟨_, rfl⟩
  rw [← hv0] at K HPA
  have G : Hid (Steps b (.slice none 0 0) v0 w4 w4) := hid (by rw [hv0]; exact Steps.refl b _ w4)
  clear hv0
  have a0 := K.out.a0
  have k2 := K.out.c2
  have k3 := K.out.c3
  have k4 := K.out.c4
  have k5 := K.out.c5
  go_wp2
  go_quiet (fail)
  replace HPA := hid (HPA.out.drewN nq)
  replace K := hid (K.out.step (Steps.quiet b _ w4 nq))
  replace G := hid (G.out.trans (Steps.quiet b _ w4 nq))
  generalize w4.drewN nq = wq at *
  replace a0 := K.out.a0
  replace k2 := K.out.c2
  replace k3 := K.out.c3
  replace k4 := K.out.c4
  replace k5 := K.out.c5
  have k0 := K.out.c0
  have k1 := K.out.c1
  go_wp2_with fail
  go_at_call 51
  refine (plasting (s := st0 M) note inst vc va e p HE.out.1 HE.out.2 HM.out.eff HPA.out).mono ?_
  rintro x w6 ⟨rfl, r6, k, g⟩
  rw [HR.out]
  replace HPA := hid k
  replace K := hid (K.out.step g)
  replace G := hid (G.out.trans g)
  clear k g
  replace a0 := K.out.a0
  replace k2 := K.out.c2
  replace k3 := K.out.c3
  replace k4 := K.out.c4
  replace k5 := K.out.c5
  clear k0 k1
  have a1 := K.out.a1
  go_wp2_with fail
  go_at_call 52
  refine (geffect d E HD.out.1 HD.out.2 (by omega) HEE.out.2 _).mono ?_
  rintro x w7 ⟨fv, pp, rfl, hl, hp, hb⟩
  rw [HG.out] at hl
  obtain rfl : fv = .nilFunc := hl
  have hnn : ∀ w : World, (binOp .neq 77 .nilFunc .nilFunc).run Tryz.prog w = .ok (.bool false) w := fun _ => by rfl
  have HPA2 := hid (HPA.out.later hb)
  have G2 := hid (G.out.trans (Steps.below b _ hb))
  clear hp hb a0 a1 k2 k3 k4 k5
  go_wp2
  go_ret
  exact ⟨b, _, _, _, rfl, HPA2.out, by rw [HG.out]; rfl, by rw [HG.out]; rfl, Below.of_steps HBel.out HLe.out G2.out⟩
set_option maxHeartbeats 4000000 in
set_option maxRecDepth 10000 in
theorem asked_5f (M : List Int) (d note inst vc va e p : Int) (m : MemOk M) (e0 : 0 ≤ e) (e1 : e ≤ 36) (p0 : 0 ≤ p) (p1 : p ≤ 255) (d1 : 1 ≤ d) (d6 : d ≤ 6) (hv : ¬ 0 < vc) (hd : (d == 5) = true) (E P : Int) (hR : lastR note e p (st0 M) = (E, P)) (E0 : 0 ≤ E) (E1 : E ≤ 36) (P0 : 0 ≤ P) (P1 : P ≤ 255) (hE : 0 < E) (hG : dialG d (letN E) ≠ .nil) (hMid : Mid (lastS note e p (st0 M))) (w : World) :
    Calls Tryz.prog 38 #[.agg #[.int .i64 d, .map none], .agg (memV M), .agg #[.int .i64 note, .int .i64 inst, .int .i64 vc, .int .i64 va, .int .i64 e, .int .i64 p]] w (Askd d (runE (dialG d (letN E)) ((lastS note e p (st0 M)).put P)) w) := by
  have HM := hid m
  have HB := hid (built_ask M m.len d)
  have HX := hid (Boxes.made w M d note inst vc va e p)
  have HE := hid (And.intro e0 e1)
  have HP := hid (And.intro p0 p1)
  have HD := hid (And.intro d1 d6)
  have HR := hid hR
  have HEE := hid (And.intro E0 E1)
  have HPP := hid (And.intro P0 P1)
  have HG := hid hG
  have HMid := hid hMid
  clear m e0 e1 p0 p1 d1 d6 hR E0 E1 P0 P1 hG hMid
  go_enter Tryz.func38, Tryz.ntmps38
  go_upto_region 1 with (fail)
  generalize ((w.alloc (.cells #[.int .i64 d, .map none] 53)).alloc (.cells (memV M) 28)).alloc (.cells #[.int .i64 note, .int .i64 inst, .int .i64 vc, .int .i64 va, .int .i64 e, .int .i64 p] 23) = w3 at *
  generalize w.heap.size + 1 + 1 = n2 at *
  generalize w.heap.size + 1 = n1 at *
  obtain ⟨n0, hn0⟩ : ∃ n0, n0 = w.heap.size := ⟨_, rfl⟩
  have HX0 : Hid (Boxes w M d note inst vc va e p n0 n1 n2 w3) := by rw [hn0]; exact HX
  have HN0 : Hid (w.heap.size ≤ n0) := hid (by omega)
  rw [← hn0]
  clear HX hn0
  have HR1 := hid (row_of_block HX0.out.t1)
  have q0 := cell_of_row w3 n0 0 _ _ _ HX0.out.t0
  have hz : n2 < w3.heap.size := HX0.out.le.2.2.2
  have hz0 : n0 < w3.heap.size := by have := HX0.out.le; omega
  go_upto_region 2 with (first
    | (refine wpList_load_at rfl 28 _ rfl n1 0 rfl (memV M) _ HR1.out Tryz.underlying28 rfl (by rw [memV_size HM.out.len]; exact size28) ?_)
    | (refine wpList_build_to rfl 69 _ rfl (ask0 M d) (Eq.trans (b := Tryz.prog.built 69 [(0, .agg (memV M)), (1, .int .i64 d)]) (by kernel_rfl) HB.out) ?_))
  have K := hid HX0.out.kept
  have HBel := hid (Below.step HX0.out.below (below1 w3 (.cells (ask0 M d) 69)))
  have HPA : Hid (PAt w3.heap.size w.heap.size d (st0 M) (.slice none 0 0) false (w3.alloc (.cells (ask0 M d) 69))) := hid (PAt.init HM.out.len (heap_alloc_new w3 _) (by have := HX0.out.below.size; omega))
  have HLe : Hid (w.heap.size ≤ w3.heap.size) := hid HX0.out.below.size
  clear HX0 HR1 HB q0 hz hz0
  generalize w3.alloc (.cells (ask0 M d) 69) = w4 at *
  generalize w3.heap.size = b at *
  obtain ⟨v0, hv0⟩ : ∃ v0 : Value, v0 = .slice none 0 0 := ⟨_, rfl⟩
  rw [← hv0] at K HPA
  have G : Hid (Steps b (.slice none 0 0) v0 w4 w4) := hid (by rw [hv0]; exact Steps.refl b _ w4)
  clear hv0
  have a0 := K.out.a0
  have k2 := K.out.c2
  have k3 := K.out.c3
  have k4 := K.out.c4
  have k5 := K.out.c5
  go_wp2
  go_quiet (fail)
  replace HPA := hid (HPA.out.drewN nq)
  replace K := hid (K.out.step (Steps.quiet b _ w4 nq))
  replace G := hid (G.out.trans (Steps.quiet b _ w4 nq))
  generalize w4.drewN nq = wq at *
  replace a0 := K.out.a0
  replace k2 := K.out.c2
  replace k3 := K.out.c3
  replace k4 := K.out.c4
  replace k5 := K.out.c5
  have k0 := K.out.c0
  have k1 := K.out.c1
  go_wp2_with fail
  go_at_call 51
  refine (plasting (s := st0 M) note inst vc va e p HE.out.1 HE.out.2 HM.out.eff HPA.out).mono ?_
  rintro x w6 ⟨rfl, r6, k, g⟩
  rw [HR.out]
  replace HPA := hid k
  replace K := hid (K.out.step g)
  replace G := hid (G.out.trans g)
  clear k g
  replace a0 := K.out.a0
  replace k2 := K.out.c2
  replace k3 := K.out.c3
  replace k4 := K.out.c4
  replace k5 := K.out.c5
  clear k0 k1
  have a1 := K.out.a1
  go_wp2_with fail
  go_at_call 52
  refine (geffect d E HD.out.1 HD.out.2 (by omega) HEE.out.2 _).mono ?_
  rintro x w7 ⟨fv, pp, rfl, hl, hp, hb⟩
  obtain ⟨n, cap, rfl⟩ := hl.clo HG.out
  have hnn : ∀ (cap : Array Value) (n : Nat) (w : World), (binOp .neq 77 (.func (.func n) #[] cap) .nilFunc).run Tryz.prog w = .ok (.bool true) w := fun _ _ _ => by rfl
  have HPA2 := hid (HPA.out.later hb)
  have AP : Hid (Apart pp b _ w7) := hid (fun c hc => ⟨by have := (hp c hc).1; have := HPA.out.asks.at_.lt; omega, fun e => by have := (hp c hc).1; have := HPA.out.own_lt e; omega, (hp c hc).2⟩)
  have HL := hid hl
  replace G := hid (G.out.trans (Steps.below b _ hb))
  clear hl hp hb a0 a1 k2 k3 k4 k5
  go_wp2_with fail
  go_at_call 53
  refine (pput P HPA2.out HPP.out.1 HPP.out.2).mono ?_
  rintro x w8 ⟨rfl, v8, r8, k, g⟩
  obtain ⟨ent, hrun⟩ := run_eff _ _ _ _ _ _ _ (dialG_wf _ _) (Lies.keep (AP.out.same g) _ _ HL.out) (AP.out.step g) k (HMid.out.put HPP.out.1 HPP.out.2)
  have HRUN := hid hrun
  replace G := hid (G.out.trans g)
  clear k g hrun
  go_wp2_with fail
  refine HRUN.out.mono ?_
  rintro x w9 ⟨rfl, v9, r9, k, g⟩
  have HPA3 := hid k
  replace G := hid (G.out.trans g)
  clear k g ent hnn
  go_wp2
  go_ret
  exact ⟨b, _, _, _, rfl, HPA3.out, rfl, rfl, Below.of_steps HBel.out HLe.out G.out⟩
end Go.Proofs.YtkpielgdfahanaaGreat
