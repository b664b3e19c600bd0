/- The tone chip: a step, in plain lists. -/
import Derived.Test.YtmogoaceangblaaChip4
import Derived.Test.YtmogoaceangblaaLate
import Derived.StillTailTactics
namespace Go.Proofs.Ytmogoaceangblaa
open Go.RowKit

def FoF (g : Int → Int → Int) : Prop := ∀ s t, 0 ≤ t → t ≤ 63 → (0 ≤ g s t ∧ g s t ≤ 63) ∧ ∀ w, Calls Try.prog 38 #[.int .i64 s, .int .i64 t] w fun e w' => e = .returned (.int .i64 (g s t)) ∧ w = w'
theorem foF_ex : ∃ g, FoF g := by
  refine ⟨fun s t => if h : 0 ≤ t ∧ t ≤ 63 then Classical.choose (follows_ex s t h.1 h.2) else 0, fun s t h0 h1 => ?_⟩
  simp only [dif_pos (And.intro h0 h1)]
  exact Classical.choose_spec (follows_ex s t h0 h1)
/-- A tone's counter goes on. -/
def stC (T : List Int) (c : Nat) : List Int :=
  if (cnt (T.getD (14 + c) 0) (perT T c)).2 then (T.set (14 + c) (cnt (T.getD (14 + c) 0) (perT T c)).1).set (17 + c) (bits .xor .i64 (T.getD (17 + c) 0) 1)
  else T.set (14 + c) (cnt (T.getD (14 + c) 0) (perT T c)).1
def stTo (T : List Int) : Nat → List Int
  | 0 => T
  | c + 1 => stC (stTo T c) c
/-- The noise, and the envelope, go on. -/
def noiseX (n : Int) : Int := wrap64 (wrap64 (n.tdiv 2) + wrap64 (65536 * (bits .xor .i64 n (wrap64 (n.tdiv 8))).tmod 2))
def stN (U : List Int) : List Int :=
  if (cnt (U.getD 20 0) (2 * max 1 (U.getD 6 0 % 32))).2 then (U.set 20 (cnt (U.getD 20 0) (2 * max 1 (U.getD 6 0 % 32))).1).set 21 (noiseX (U.getD 21 0)) else U.set 20 (cnt (U.getD 20 0) (2 * max 1 (U.getD 6 0 % 32))).1
def stE (g : Int → Int → Int) (V : List Int) : List Int :=
  if (cnt (V.getD 22 0) (max 1 (V.getD 11 0 + 256 * V.getD 12 0))).2 then (V.set 22 (cnt (V.getD 22 0) (max 1 (V.getD 11 0 + 256 * V.getD 12 0))).1).set 23 (g (V.getD 13 0 % 16) (V.getD 23 0)) else V.set 22 (cnt (V.getD 22 0) (max 1 (V.getD 11 0 + 256 * V.getD 12 0))).1
def stepT (g : Int → Int → Int) (T : List Int) : List Int := stE g (stN (stTo T 3))
theorem OkT.set {T : List Int} (h : OkT T) (i : Nat) (v : Int) (hr : i < 14 → 0 ≤ v ∧ v ≤ 255) (hc : (14 ≤ i ∧ i < 17) ∨ i = 20 ∨ i = 22 → 0 ≤ v ∧ v ≤ 65535) (hs : i = 23 → 0 ≤ v ∧ v ≤ 63) : OkT (T.set i v) := by
  have key : ∀ j, (T.set i v).getD j 0 = if i = j ∧ i < T.length then v else T.getD j 0 := by
    intro j
    rw [List.getD, List.getElem?_set]
    by_cases e : i = j
    · subst e
      by_cases hl : i < T.length
      · simp [hl]
      · simp [hl]
    · simp [e]
  refine ⟨by rw [List.length_set]; exact h.len, fun j hj => ?_, fun j hj => ?_, ?_⟩
  · rw [key]; split
    · rename_i e; exact hr (by omega)
    · exact h.regs j hj
  · rw [key]; split
    · rename_i e; exact hc (by obtain ⟨rfl, _⟩ := e; exact hj)
    · exact h.cnt j hj
  · rw [key]; split
    · rename_i e; exact hs e.1
    · exact h.step
theorem perT_le {T : List Int} (h : OkT T) {c : Nat} (hc : c < 3) : perT T c ≤ 65536 := by
  have a := h.regs (2 * c) (by omega)
  have b := h.regs (2 * c + 1) (by omega)
  unfold perT
  omega
theorem OkT.stC {T : List Int} (h : OkT T) {c : Nat} (hc : c < 3) : OkT (stC T c) := by
  have h1 := h.cnt (14 + c) (Or.inl (by omega))
  have h2 := cnt_range (T.getD (14 + c) 0) (perT T c) h1.1 (perT_le h hc)
  unfold Ytmogoaceangblaa.stC
  split
  · exact (h.set _ _ (fun h => by omega) (fun _ => h2) (fun h => by omega)).set _ _ (fun h => by omega) (fun h => by omega) (fun h => by omega)
  · exact h.set _ _ (fun h => by omega) (fun _ => h2) (fun h => by omega)
theorem OkT.stTo {T : List Int} (h : OkT T) : ∀ c, c ≤ 3 → OkT (stTo T c)
  | 0, _ => h
  | c + 1, hc => (h.stTo c (by omega)).stC (by omega)
theorem ok_new : OkT newT := by
  refine ⟨rfl, ?_, ?_, by decide⟩
  · decide
  · intro i hi
    have : i = 14 ∨ i = 15 ∨ i = 16 ∨ i = 20 ∨ i = 22 := by omega
    rcases this with rfl | rfl | rfl | rfl | rfl <;> decide
theorem OkT.wr {T : List Int} (h : OkT T) {r : Nat} {v : Int} (hr : r < 14) (h0 : 0 ≤ v) (h1 : v ≤ 255) : OkT (wrT T r v) := by
  unfold wrT
  split
  · exact ((h.set _ _ (fun _ => ⟨h0, h1⟩) (fun h => by omega) (fun h => by omega)).set _ _ (fun h => by omega) (fun h => by omega) (fun _ => by omega)).set _ _ (fun h => by omega) (fun _ => by omega) (fun h => by omega)
  · exact h.set _ _ (fun _ => ⟨h0, h1⟩) (fun h => by omega) (fun h => by omega)
theorem yieldsIf_load_row {ops : Array Oper} {S : World → Prop} {op : Oper} {a : Act} (hw : Region.wanted op (yielded ops a.tmps) = true) (ty : TypeId) (x : Operand) (ho : op.op = .load ty x)
    (g : Nat) (hx : a.eval x = .pointer (some ⟨g, 0, none⟩)) (cs : Array Value) (hS : ∀ w, S w → w.heap[g]? = some (.cells cs 57 (0, 0))) (hty : ty = 57) (hi : (Try.prog.info? 57).map (·.size) = some cs.size) : YieldsIf Try.prog ops S op (.agg cs) a := by
  subst hty
  refine Or.inl ⟨hw, fun w h => ?_⟩
  unfold execOp
  simp only [ho, hx, Instr.loadAt, Instr.sureAddr, Sem.run_bind, Sem.run_pure, Result.andThen_ok, run_loadVar_row w g 57 57 cs (0, 0) _ (hS w h) Try.underlying57 rfl hi]
theorem still_load_row {w : World} {a : Act} {o : Oper} {K : Act → Prop} (ty : TypeId) (x : Operand) (ho : o.op = .load ty x) (g : Nat) (hx : a.eval x = .pointer (some ⟨g, 0, none⟩))
    (cs : Array Value) (hg : w.heap[g]? = some (.cells cs 57 (0, 0))) (hty : ty = 57) (hi : (Try.prog.info? 57).map (·.size) = some cs.size) (hk : K (a.put o.dst (.agg cs))) : o.still Try.prog a w K := by
  subst hty
  unfold Oper.still execOp
  simp only [ho, hx, Instr.loadAt, Instr.sureAddr, Sem.run_bind, Sem.run_pure, Result.andThen_ok, run_loadVar_row w g 57 57 cs (0, 0) _ hg Try.underlying57 rfl hi]
  exact ⟨rfl, hk⟩
set_option maxHeartbeats 8000000 in
set_option maxRecDepth 100000 in
theorem stepped_any (g : Int → Int → Int) (hg : FoF g) (T : List Int) (w : World) (hO : OkT T) :
    Calls Try.prog 30 #[.agg (icells T).toArray] w fun e w' => e = .returned (.agg (icells (stepT g T)).toArray) ∧ Below w.heap.size w w' := by
  have HO := hid hO; have HG := hid hg; clear hO hg
  have HSZ := hid (size57' HO.out.len)
  go_enter Try.func30, Try.ntmps30
  go_upto_region 1 with (fail)
  obtain ⟨w1, hw1⟩ : ∃ z, z = (w.alloc (Obj.cells (icells T).toArray 57)).alloc (Obj.cells zero24 57) := ⟨_, rfl⟩
  have hz : ((w.alloc (Obj.cells (icells T).toArray 57)).alloc (Obj.cells #[Value.int IntKind.i64 0, Value.int IntKind.i64 0, Value.int IntKind.i64 0, Value.int IntKind.i64 0, Value.int IntKind.i64 0, Value.int IntKind.i64 0, Value.int IntKind.i64 0, Value.int IntKind.i64 0, Value.int IntKind.i64 0, Value.int IntKind.i64 0, Value.int IntKind.i64 0, Value.int IntKind.i64 0, Value.int IntKind.i64 0, Value.int IntKind.i64 0, Value.int IntKind.i64 0, Value.int IntKind.i64 0, Value.int IntKind.i64 0, Value.int IntKind.i64 0, Value.int IntKind.i64 0, Value.int IntKind.i64 0, Value.int IntKind.i64 0, Value.int IntKind.i64 0, Value.int IntKind.i64 0, Value.int IntKind.i64 0] 57)) = w1 := hw1.symm
  rw [hz]
  clear hz
  have HA : Hid (ToneAt w1 w.heap.size T) := hid (by rw [hw1]; exact (ToneAt.new w T).alloc _)
  have HR : Hid (w1.heap[w.heap.size + 1]? = some (.cells zero24 57 (0, 0))) := hid (by rw [hw1]; have := heap_alloc_new (w.alloc (Obj.cells (icells T).toArray 57)) (Obj.cells zero24 57); simpa using this)
  have HB : Hid (Below w.heap.size w w1) := hid (by rw [hw1]; exact Below.grow (Below.grow (Below.refl _ _) _) _)
  have HS : Hid (w.heap.size + 2 ≤ w1.heap.size) := hid (by rw [hw1]; simp)
  clear hw1
  go_wp2_with fail
  go_loopw [6] (fun i wr => ∃ k : Nat, k ≤ 3 ∧ i = .int .i64 k ∧ Hid (ToneAt wr w.heap.size (stTo T k)) ∧ Hid (wr.heap[w.heap.size + 1]? = some (.cells zero24 57 (0, 0))) ∧ Hid (Below w.heap.size w wr) ∧ Hid (w.heap.size + 2 ≤ wr.heap.size)) (fun i _ => 3 - (intOf i).toNat)
  case atStart => exact ⟨0, by omega, rfl, HA, HR, HB, HS⟩
  case round =>
    obtain ⟨k, hk, rfl, HA, HR, HB, HS⟩ := hrel
    by_cases hlt : k < 3
    · have HOK := hid (HO.out.stTo k (by omega))
      have HNX : Hid (stTo T (k + 1) = stC (stTo T k) k) := hid rfl
      obtain ⟨U, hU⟩ : ∃ U, U = stTo T k := ⟨_, rfl⟩
      rw [← hU] at HA HOK HNX
      have hk0 : (0 : Int) ≤ (k : Int) := by omega
      have hk1 : (k : Int) < 3 := by omega
      have get : ∀ i, i < 24 → ∃ v, U[i]? = some v ∧ U.getD i 0 = v := fun i hi => ⟨U[i]'(by rw [HOK.out.len]; exact hi), List.getElem?_eq_getElem _, by rw [List.getD, List.getElem?_eq_getElem (by rw [HOK.out.len]; exact hi)]; rfl⟩
      obtain ⟨c, hc, hcg⟩ := get (14 + k) (by omega)
      obtain ⟨b, hb, hbg⟩ := get (17 + k) (by omega)
      have qc := HOK.out.cnt (14 + k) (Or.inl (by omega)); rw [hcg] at qc
      obtain ⟨qc0, qc1⟩ := qc
      have HST : Hid (stC U k = if (cnt c (perT U k)).2 then (U.set (14 + k) (cnt c (perT U k)).1).set (17 + k) (bits .xor .i64 b 1) else U.set (14 + k) (cnt c (perT U k)).1) := hid (by unfold stC; rw [hcg, hbg])
      have HC := hid hc; have HBB := hid hb
      clear get hc hb hcg hbg hU
      go_upto_region 5 with (fail)
      have HT3 := hid (HA.out.below (B := wr.heap.size) (Below.refl wr.heap.size wr).drew HA.out.lt)
      have HSU := hid (size57' HOK.out.len)
      have HRD : Hid (Below w.heap.size w wr.drew) := hid HB.out.drew
      have HSD : Hid (w.heap.size + 2 ≤ wr.drew.heap.size) := HS
      have HRR : Hid (wr.drew.heap[w.heap.size + 1]? = some (.cells zero24 57 (0, 0))) := HR
      refine wp_region_late (S := fun w' => ToneAt w' w.heap.size U) [16] (by kernel_rfl) ?_
      obtain ⟨wd, hwd⟩ : ∃ z, z = wr.drew := ⟨_, rfl⟩
      rw [← hwd] at HT3 HRD HSD HRR ⊢
      clear hwd HA HR HB HS
      refine wpLate_pure (i := 0) (oi := { dst := some 10, op := Op.move (Operand.tmp 4), type := 3, pos := "chip.go:77", after := #[], guard := none }) (v := ?vp1) rfl (by kernel_rfl) (by kernel_rfl) (by kernel_rfl) (by first | rfl | simp) (fun _ _ _ h => h) (Or.inl ⟨by rfl, ?hp1⟩) (fun _ => HT3.out) ?rp1
      case hp1 => (intro w _; go_simp; try with_reducible rfl)
      (try simp only [Act.put, List.setIfInBounds_toArray, List.set_cons_zero, List.set_cons_succ])
      refine wpLate_pure (i := 1) (oi := { dst := some 11, op := Op.move (Operand.tmp 4), type := 3, pos := "chip.go:77", after := #[], guard := none }) (v := ?vp2) rfl (by kernel_rfl) (by kernel_rfl) (by kernel_rfl) (by first | rfl | simp) (fun _ _ _ h => h) (Or.inl ⟨by rfl, ?hp2⟩) (fun _ => HT3.out) ?rp2
      case hp2 => (intro w _; go_simp; try with_reducible rfl)
      (try simp only [Act.put, List.setIfInBounds_toArray, List.set_cons_zero, List.set_cons_succ])
      refine wpLate_pure (i := 2) (oi := { dst := some 12, op := Op.fieldAddr 57 (Operand.tmp 1) 0, type := 0, pos := "chip.go:77", after := #[], guard := none }) (v := ?vp3) rfl (by kernel_rfl) (by kernel_rfl) (by kernel_rfl) (by first | rfl | simp) (fun _ _ _ h => h) (Or.inl ⟨by rfl, ?hp3⟩) (fun _ => HT3.out) ?rp3
      case hp3 => (intro w _; go_simp; try with_reducible rfl)
      (try simp only [Act.put, List.setIfInBounds_toArray, List.set_cons_zero, List.set_cons_succ])
      refine wpLate_pure (i := 3) (oi := { dst := some 13, op := Op.fieldAddr 54 (Operand.tmp 12) 1, type := 0, pos := "chip.go:77", after := #[{ on := 2, ground := Ground.data }], guard := none }) (v := ?vp4) rfl (by kernel_rfl) (by kernel_rfl) (by kernel_rfl) (by first | rfl | simp) (fun _ _ _ h => h) (Or.inl ⟨by rfl, ?hp4⟩) (fun _ => HT3.out) ?rp4
      case hp4 => (intro w _; go_simp; try with_reducible rfl)
      (try simp only [Act.put, List.setIfInBounds_toArray, List.set_cons_zero, List.set_cons_succ])
      refine wpLate_pure (i := 4) (oi := { dst := some 14, op := Op.indexAddr 52 (Operand.tmp 13) (Operand.tmp 11), type := 0, pos := "chip.go:77", after := #[{ on := 3, ground := Ground.data }, { on := 1, ground := Ground.data }], guard := none }) (v := ?vp5) rfl (by kernel_rfl) (by kernel_rfl) (by kernel_rfl) (by first | rfl | simp) (fun _ _ _ h => h) (Or.inl ⟨by rfl, ?hp5⟩) (fun _ => HT3.out) ?rp5
      case hp5 => (intro w _; go_simp; try with_reducible rfl)
      (try simp only [Act.put, List.setIfInBounds_toArray, List.set_cons_zero, List.set_cons_succ])
      refine wpLate_take (i := 5) (oi := { dst := some 15, op := Op.load 3 (Operand.tmp 14), type := 3, pos := "chip.go:77", after := #[{ on := 4, ground := Ground.data }], guard := none }) (v := ?vp6) rfl (by kernel_rfl) (by kernel_rfl) (by kernel_rfl) (by kernel_rfl) (by kernel_rfl) (fun _ _ _ h => h) (Or.inl ⟨by rfl, ?hp6⟩) (HT3.out) ?rp6
      case hp6 => (intro w hSw; have hcc := ToneAt.cell hSw HC.out; go_simp; try with_reducible rfl)
      (try simp only [Act.put, List.setIfInBounds_toArray, List.set_cons_zero, List.set_cons_succ])
      refine wpLate_take (i := 6) (oi := { dst := some 16, op := Op.load 57 (Operand.tmp 1), type := 57, pos := "chip.go:77", after := #[], guard := none }) rfl (by kernel_rfl) (by kernel_rfl) (by kernel_rfl) (by kernel_rfl) (by kernel_rfl) (fun _ _ _ h => h) (yieldsIf_load_row (by rfl) 57 _ rfl w.heap.size rfl (icells U).toArray (fun _ h => h) rfl HSU.out) (HT3.out) ?_
      (try simp only [Act.put, List.setIfInBounds_toArray, List.set_cons_zero, List.set_cons_succ])
      refine wpLate_pure (i := 7) (oi := { dst := some 17, op := Op.move (Operand.tmp 4), type := 3, pos := "chip.go:77", after := #[], guard := none }) (v := ?vp7) rfl (by kernel_rfl) (by kernel_rfl) (by kernel_rfl) (by first | rfl | simp) (fun _ _ _ h => h) (Or.inl ⟨by rfl, ?hp7⟩) (fun _ => HT3.out) ?rp7
      case hp7 => (intro w _; go_simp; try with_reducible rfl)
      (try simp only [Act.put, List.setIfInBounds_toArray, List.set_cons_zero, List.set_cons_succ])
      refine wpLate_pure (i := 13) (oi := { dst := some 22, op := Op.fieldAddr 57 (Operand.tmp 1) 0, type := 0, pos := "chip.go:77", after := #[], guard := none }) (v := ?vp8) rfl (by kernel_rfl) (by kernel_rfl) (by kernel_rfl) (by first | rfl | simp) (fun _ _ _ h => h) (Or.inl ⟨by rfl, ?hp8⟩) (fun _ => HT3.out) ?rp8
      case hp8 => (intro w _; go_simp; try with_reducible rfl)
      (try simp only [Act.put, List.setIfInBounds_toArray, List.set_cons_zero, List.set_cons_succ])
      refine wpLate_pure (i := 14) (oi := { dst := some 23, op := Op.fieldAddr 54 (Operand.tmp 22) 1, type := 0, pos := "chip.go:77", after := #[{ on := 13, ground := Ground.data }], guard := none }) (v := ?vp9) rfl (by kernel_rfl) (by kernel_rfl) (by kernel_rfl) (by first | rfl | simp) (fun _ _ _ h => h) (Or.inl ⟨by rfl, ?hp9⟩) (fun _ => HT3.out) ?rp9
      case hp9 => (intro w _; go_simp; try with_reducible rfl)
      (try simp only [Act.put, List.setIfInBounds_toArray, List.set_cons_zero, List.set_cons_succ])
      refine wpLate_all (rs := [8]) (by kernel_rfl) (by simp) ?_
      intro i hi
      simp only [List.mem_cons, List.not_mem_nil, or_false] at hi
      subst hi
      refine wpOp_do (oi := { dst := some 18, op := Op.call { callee := Callee.value (Operand.func 37), args := #[Operand.tmp 16, Operand.tmp 17], argTypes := #[57, 3] }, type := 3, pos := "chip.go:77", after := #[{ on := 6, ground := Ground.data }, { on := 7, ground := Ground.data }], guard := none }) rfl (by rfl) ?_
      go_simp
      refine (period_any U k wd HOK.out.len hlt HOK.out.regs).mono ?_
      rintro e w4 ⟨rfl, hb4⟩
      have HT4 := hid (HT3.out.below hb4 HT3.out.lt)
      have HB4 : Hid (Below w.heap.size w w4) := hid (Below.step HRD.out hb4)
      have HS4 : Hid (w.heap.size + 2 ≤ w4.heap.size) := hid (Nat.le_trans HSD.out hb4.size)
      have HR4 : Hid (w4.heap[w.heap.size + 1]? = some (.cells zero24 57 (0, 0))) := hid ((hb4.block _ (by have := HSD.out; omega)).trans HRR.out)
      have HPL := hid (perT_le HOK.out hlt)
      obtain ⟨pp, hpp⟩ : ∃ q, q = perT U k := ⟨_, rfl⟩
      rw [← hpp] at HPL HST ⊢
      clear hpp hb4
      refine ⟨(by first | exact HT4.out | exact fun _ => HT4.out), ?_⟩
      refine wpLate_all (rs := [9]) (by kernel_rfl) (by simp) ?_
      intro i hi
      simp only [List.mem_cons, List.not_mem_nil, or_false] at hi
      subst hi
      refine wpOp_do (oi := { dst := some 19, op := Op.call { callee := Callee.value (Operand.func 36), args := #[Operand.tmp 15, Operand.tmp 18], argTypes := #[3, 3] }, type := 79, pos := "chip.go:77", after := #[{ on := 5, ground := Ground.data }, { on := 8, ground := Ground.data }, { on := 8, ground := Ground.chain }], guard := none }) rfl (by rfl) ?_
      go_simp
      refine (counted_any c pp w4 qc0 qc1).mono ?_
      rintro e w5 ⟨rfl, rfl⟩
      have HCN := hid (cnt_range c pp qc0 HPL.out)
      obtain ⟨q, hq⟩ : ∃ q, q = cnt c pp := ⟨_, rfl⟩
      rw [← hq] at HST HCN ⊢
      obtain ⟨q1, q2⟩ := q
      simp only at HST HCN ⊢
      clear hq
      (try simp only [Act.put, List.setIfInBounds_toArray, List.set_cons_zero, List.set_cons_succ])
      refine ⟨(by first | exact HT4.out | exact fun _ => HT4.out), ?_⟩
      refine wpLate_pure (i := 10) (oi := { dst := some 9, op := Op.move (Operand.tmp 19), type := 79, pos := "chip.go:77", after := #[{ on := 9, ground := Ground.data }], guard := none }) (v := ?vp10) rfl (by kernel_rfl) (by kernel_rfl) (by kernel_rfl) (by first | rfl | simp) (fun _ _ _ h => h) (Or.inl ⟨by rfl, ?hp10⟩) (fun _ => HT4.out) ?rp10
      case hp10 => (intro w _; go_simp; try with_reducible rfl)
      (try simp only [Act.put, List.setIfInBounds_toArray, List.set_cons_zero, List.set_cons_succ])
      refine wpLate_pure (i := 11) (oi := { dst := some 20, op := Op.extract (Operand.tmp 9) 0, type := 3, pos := "chip.go:77", after := #[{ on := 10, ground := Ground.data }], guard := none }) (v := ?vp11) rfl (by kernel_rfl) (by kernel_rfl) (by kernel_rfl) (by first | rfl | simp) (fun _ _ _ h => h) (Or.inl ⟨by rfl, ?hp11⟩) (fun _ => HT4.out) ?rp11
      case hp11 => (intro w _; go_simp; try with_reducible rfl)
      (try simp only [Act.put, List.setIfInBounds_toArray, List.set_cons_zero, List.set_cons_succ])
      refine wpLate_pure (i := 12) (oi := { dst := some 21, op := Op.extract (Operand.tmp 9) 1, type := 4, pos := "chip.go:77", after := #[{ on := 10, ground := Ground.data }, { on := 16, ground := Ground.gcOnly Departure.lateStores }], guard := none }) (v := ?vp12) rfl (by kernel_rfl) (by kernel_rfl) (by kernel_rfl) (by first | rfl | simp) (fun _ _ _ h => h) (Or.inl ⟨by rfl, ?hp12⟩) (fun _ => HT4.out) ?rp12
      case hp12 => (intro w _; go_simp; try with_reducible rfl)
      (try simp only [Act.put, List.setIfInBounds_toArray, List.set_cons_zero, List.set_cons_succ])
      refine wpLate_pure (i := 15) (oi := { dst := some 24, op := Op.indexAddr 52 (Operand.tmp 23) (Operand.tmp 10), type := 0, pos := "chip.go:77", after := #[{ on := 14, ground := Ground.data }, { on := 0, ground := Ground.data }, { on := 0, ground := Ground.phase }, { on := 1, ground := Ground.phase }, { on := 2, ground := Ground.phase }, { on := 3, ground := Ground.phase }, { on := 4, ground := Ground.phase }, { on := 5, ground := Ground.phase }, { on := 6, ground := Ground.phase }, { on := 7, ground := Ground.phase }, { on := 8, ground := Ground.phase }, { on := 9, ground := Ground.phase }, { on := 10, ground := Ground.phase }, { on := 11, ground := Ground.phase }, { on := 12, ground := Ground.textOnly Departure.lateStores }], guard := none }) (v := ?vp13) rfl (by kernel_rfl) (by kernel_rfl) (by kernel_rfl) (by first | rfl | simp) (fun _ _ _ h => h) (Or.inl ⟨by rfl, ?hp13⟩) (fun _ => HT4.out) ?rp13
      case hp13 => (intro w _; go_simp; try with_reducible rfl)
      (try simp only [Act.put, List.setIfInBounds_toArray, List.set_cons_zero, List.set_cons_succ])
      have hcs := HT4.out.cell HC.out
      have hfs := HT4.out.frozen (k := 14 + k)
      refine wpLate_all (rs := [16]) (by kernel_rfl) (by simp) ?_
      intro i hi
      simp only [List.mem_cons, List.not_mem_nil, or_false] at hi
      subst hi
      refine wpOp_do (oi := { dst := none, op := Op.store 3 (Operand.tmp 24) (Operand.tmp 20), type := 0, pos := "chip.go:77", after := #[{ on := 15, ground := Ground.data }, { on := 11, ground := Ground.data }, { on := 9, ground := Ground.chain }, { on := 0, ground := Ground.phase }, { on := 1, ground := Ground.phase }, { on := 2, ground := Ground.phase }, { on := 3, ground := Ground.phase }, { on := 4, ground := Ground.phase }, { on := 5, ground := Ground.phase }, { on := 6, ground := Ground.phase }, { on := 7, ground := Ground.phase }, { on := 8, ground := Ground.phase }, { on := 9, ground := Ground.phase }, { on := 10, ground := Ground.phase }, { on := 11, ground := Ground.phase }, { on := 12, ground := Ground.textOnly Departure.lateStores }], guard := none }) rfl (by rfl) ?_
      go_simp
      refine wpLate_pure (i := 17) (oi := { dst := some 3, op := Op.assign (Operand.tmp 21), type := 4, pos := "chip.go:77", after := #[{ on := 12, ground := Ground.data }, { on := 16, ground := Ground.chain }, { on := 0, ground := Ground.phase }, { on := 1, ground := Ground.phase }, { on := 2, ground := Ground.phase }, { on := 3, ground := Ground.phase }, { on := 4, ground := Ground.phase }, { on := 5, ground := Ground.phase }, { on := 6, ground := Ground.phase }, { on := 7, ground := Ground.phase }, { on := 8, ground := Ground.phase }, { on := 9, ground := Ground.phase }, { on := 10, ground := Ground.phase }, { on := 11, ground := Ground.phase }, { on := 12, ground := Ground.phase }, { on := 13, ground := Ground.phase }, { on := 14, ground := Ground.phase }, { on := 15, ground := Ground.phase }, { on := 16, ground := Ground.phase }], guard := none }) (v := ?vp14) rfl (by kernel_rfl) (by kernel_rfl) (by kernel_rfl) (by first | rfl | simp) (fun _ _ _ h => h) (Or.inl ⟨by rfl, ?hp14⟩) (fun h => by cases h) ?rp14
      case hp14 => (intro w _; go_simp; try with_reducible rfl)
      (try simp only [Act.put, List.setIfInBounds_toArray, List.set_cons_zero, List.set_cons_succ])
      refine wpLate_done (by kernel_rfl) ?_ _
      have HT5 : Hid (ToneAt (w4.setCell ⟨w.heap.size, 14 + k, none⟩ (.int .i64 q1)) w.heap.size (U.set (14 + k) q1)) := hid HT4.out.set
      have HB5 : Hid (Below w.heap.size w (w4.setCell ⟨w.heap.size, 14 + k, none⟩ (.int .i64 q1))) := hid (HB4.out.setCell (p := ⟨w.heap.size, 14 + k, none⟩) (Nat.le_refl _) _)
      have HR5 : Hid ((w4.setCell ⟨w.heap.size, 14 + k, none⟩ (.int .i64 q1)).heap[w.heap.size + 1]? = some (.cells zero24 57 (0, 0))) := hid (by rw [heap_setCell_other _ ⟨w.heap.size, 14 + k, none⟩ _ _ (by simp)]; exact HR4.out)
      have HS5 : Hid (w.heap.size + 2 ≤ (w4.setCell ⟨w.heap.size, 14 + k, none⟩ (.int .i64 q1)).heap.size) := hid (by simpa using HS4.out)
      obtain ⟨w5, hw5⟩ : ∃ z, z = w4.setCell ⟨w.heap.size, 14 + k, none⟩ (.int .i64 q1) := ⟨_, rfl⟩
      rw [← hw5] at HT5 HB5 HR5 HS5 ⊢
      clear hw5 hcs hfs HT4 HB4 HR4 HS4
      cases q2 with
      | true =>
        have HBV : Hid ((U.set (14 + k) q1)[17 + k]? = some b) := hid (by rw [List.getElem?_set_ne (by omega)]; exact HBB.out)
        have hcb := HT5.out.cell HBV.out
        have hfb := HT5.out.frozen (k := 17 + k)
        go_wp2
        go_roundw
        case rel => exact ⟨k + 1, by omega, by go_num, hid (by rw [HNX.out, HST.out]; exact HT5.out.set), hid (by rw [heap_setCell_other _ ⟨w.heap.size, 17 + k, none⟩ _ _ (by simp)]; exact HR5.out), hid (HB5.out.setCell (p := ⟨w.heap.size, 17 + k, none⟩) (Nat.le_refl _) _), hid (by simpa using HS5.out)⟩
        case measure => simp [intOf]; omega
      | false =>
        go_wp2
        go_roundw
        case rel => exact ⟨k + 1, by omega, by go_num, hid (by rw [HNX.out, HST.out]; exact HT5.out), HR5, HB5, HS5⟩
        case measure => simp [intOf]; omega
    · obtain rfl : k = 3 := by omega
      have HOK := hid (HO.out.stTo 3 (by omega))
      obtain ⟨U, hU⟩ : ∃ U, U = stTo T 3 := ⟨_, rfl⟩
      rw [← hU] at HA HOK
      have get : ∀ i, i < 24 → ∃ v, U[i]? = some v ∧ U.getD i 0 = v := fun i hi => ⟨U[i]'(by rw [HOK.out.len]; exact hi), List.getElem?_eq_getElem _, by rw [List.getD, List.getElem?_eq_getElem (by rw [HOK.out.len]; exact hi)]; rfl⟩
      obtain ⟨nc, hnc, hncg⟩ := get 20 (by omega)
      obtain ⟨r6, hr6, hr6g⟩ := get 6 (by omega)
      obtain ⟨n, hn, hng⟩ := get 21 (by omega)
      have qc := HOK.out.cnt 20 (Or.inr (Or.inl rfl)); rw [hncg] at qc
      have q6 := HOK.out.regs 6 (by omega); rw [hr6g] at q6
      obtain ⟨qc0, qc1⟩ := qc; obtain ⟨q60, q61⟩ := q6
      have hc20 := HA.out.cell hnc; have hc6 := HA.out.cell hr6; have hc21 := HA.out.cell hn
      have hf20 := HA.out.frozen (k := 20); have hf21 := HA.out.frozen (k := 21)
      have HN21 := hid hn; have HC20 := hid hnc
      clear get hnc hr6 hn
      go_wp2_with fail
      refine (counted_any nc (2 * max 1 (r6 % 32)) wr qc0 qc1).mono ?_
      rintro e w5 ⟨rfl, rfl⟩
      have HCN := hid (cnt_range nc (2 * max 1 (r6 % 32)) qc0 (by omega))
      obtain ⟨q, hq⟩ : ∃ q, q = cnt nc (2 * max 1 (r6 % 32)) := ⟨_, rfl⟩
      rw [← hq] at HCN ⊢
      obtain ⟨q1, q2⟩ := q
      simp only at HCN ⊢
      have HQ := hid hq
      clear hq
      have HSN : Hid (stN U = if q2 then (U.set 20 q1).set 21 (noiseX n) else U.set 20 q1) := hid (by unfold stN; rw [hncg, hr6g, hng, ← HQ.out])
      have HSTE : Hid (stepT g T = stE g (stN U)) := hid (by unfold stepT; rw [hU])
      clear hncg hr6g hng hU
      cases q2 with
      | true =>
        obtain ⟨m, hm⟩ : ∃ m, m = noiseX n := ⟨_, rfl⟩
        rw [← hm] at HSN
        go_upto_region 13 with (fail)
        rw [show wrap64 (wrap64 (n.tdiv 2) + wrap64 (65536 * (bits .xor .i64 n (wrap64 (n.tdiv 8))).tmod 2)) = m from hm.symm]
        clear hm
        obtain ⟨V, hV⟩ : ∃ V, V = (U.set 20 q1).set 21 m := ⟨_, rfl⟩
        have HVE := hid hV
        have HVN : Hid (stN U = V) := hid (by rw [HSN.out, hV]; rfl)
        clear hV
        have HTV : Hid (ToneAt ((wr.setCell ⟨w.heap.size, 20, none⟩ (.int .i64 q1)).setCell ⟨w.heap.size, 21, none⟩ (.int .i64 m)) w.heap.size V) := hid (by rw [HVE.out]; exact HA.out.set.set)
        have HRV : Hid (((wr.setCell ⟨w.heap.size, 20, none⟩ (.int .i64 q1)).setCell ⟨w.heap.size, 21, none⟩ (.int .i64 m)).heap[w.heap.size + 1]? = some (.cells zero24 57 (0, 0))) := hid (by rw [heap_setCell_other _ ⟨w.heap.size, 21, none⟩ _ _ (by simp)]; rw [heap_setCell_other _ ⟨w.heap.size, 20, none⟩ _ _ (by simp)]; exact HR.out)
        have HBV : Hid (Below w.heap.size w ((wr.setCell ⟨w.heap.size, 20, none⟩ (.int .i64 q1)).setCell ⟨w.heap.size, 21, none⟩ (.int .i64 m))) := hid ((HB.out.setCell (p := ⟨w.heap.size, 20, none⟩) (Nat.le_refl _) _).setCell (p := ⟨w.heap.size, 21, none⟩) (Nat.le_refl _) _)
        obtain ⟨w6, hw6⟩ : ∃ z, z = (wr.setCell ⟨w.heap.size, 20, none⟩ (.int .i64 q1)).setCell ⟨w.heap.size, 21, none⟩ (.int .i64 m) := ⟨_, rfl⟩
        rw [← hw6] at HTV HRV HBV ⊢
        clear hw6
        clear hc20 hc6 hc21 hf20 hf21
        have HOV : Hid (OkT V) := hid (by rw [HVE.out]; exact (HOK.out.set _ _ (fun h => by omega) (fun _ => HCN.out) (fun h => by omega)).set _ _ (fun h => by omega) (fun h => by omega) (fun h => by omega))
        have get : ∀ i, i < 24 → ∃ v, V[i]? = some v ∧ V.getD i 0 = v := fun i hi => ⟨V[i]'(by rw [HOV.out.len]; exact hi), List.getElem?_eq_getElem _, by rw [List.getD, List.getElem?_eq_getElem (by rw [HOV.out.len]; exact hi)]; rfl⟩
        obtain ⟨ec, hec, hecg⟩ := get 22 (by omega)
        obtain ⟨ra, hra, hrag⟩ := get 11 (by omega)
        obtain ⟨rb, hrb, hrbg⟩ := get 12 (by omega)
        obtain ⟨rs, hrs, hrsg⟩ := get 13 (by omega)
        obtain ⟨st, hst, hstg⟩ := get 23 (by omega)
        have pe := HOV.out.cnt 22 (Or.inr (Or.inr rfl)); rw [hecg] at pe
        have pa := HOV.out.regs 11 (by omega); rw [hrag] at pa
        have pb := HOV.out.regs 12 (by omega); rw [hrbg] at pb
        have ps := HOV.out.regs 13 (by omega); rw [hrsg] at ps
        have pt := HOV.out.step; rw [hstg] at pt
        obtain ⟨pe0, pe1⟩ := pe; obtain ⟨pa0, pa1⟩ := pa; obtain ⟨pb0, pb1⟩ := pb; obtain ⟨ps0, ps1⟩ := ps; obtain ⟨pt0, pt1⟩ := pt
        have hd22 := HTV.out.cell hec; have hd11 := HTV.out.cell hra; have hd12 := HTV.out.cell hrb; have hd13 := HTV.out.cell hrs; have hd23 := HTV.out.cell hst
        have hg22 := HTV.out.frozen (k := 22); have hg23 := HTV.out.frozen (k := 23)
        have HSE : Hid (stE g V = if (cnt ec (max 1 (ra + 256 * rb))).2 then (V.set 22 (cnt ec (max 1 (ra + 256 * rb))).1).set 23 (g (rs % 16) st) else V.set 22 (cnt ec (max 1 (ra + 256 * rb))).1) := hid (by unfold stE; rw [hecg, hrag, hrbg, hrsg, hstg])
        clear get hec hra hrb hrs hst hecg hrag hrbg hrsg hstg
        go_wp2_with fail
        refine (counted_any ec (max 1 (ra + 256 * rb)) w6 pe0 pe1).mono ?_
        rintro e w7 ⟨rfl, rfl⟩
        have HCE := hid (cnt_range ec (max 1 (ra + 256 * rb)) pe0 (by omega))
        obtain ⟨x, hx⟩ : ∃ x, x = cnt ec (max 1 (ra + 256 * rb)) := ⟨_, rfl⟩
        rw [← hx] at HCE HSE ⊢
        obtain ⟨x1, x2⟩ := x
        simp only at HCE HSE ⊢
        clear hx
        cases x2 with
        | true =>
          obtain ⟨hgr, hcall⟩ := HG.out (rs % 16) st pt0 pt1
          have HCL := hid hcall; have HGR := hid hgr
          obtain ⟨y, hy⟩ : ∃ y, g (rs % 16) st = y := ⟨_, rfl⟩
          rw [hy] at HCL HSE HGR
          clear hy hcall hgr
          have HOX : Hid (OkT ((V.set 22 x1).set 23 y)) := hid ((HOV.out.set _ _ (fun h => by omega) (fun _ => HCE.out) (fun h => by omega)).set _ _ (fun h => by omega) (fun h => by omega) (fun _ => HGR.out))
          have HES : Hid (stepT g T = (V.set 22 x1).set 23 y) := hid (by rw [HSTE.out, HVN.out, HSE.out]; rfl)
          go_wp2_with fail
          refine (HCL.out _).mono ?_
          rintro e w9 ⟨rfl, rfl⟩
          go_upto_region 16 with (fail)
          have HTX : Hid (ToneAt ((w6.setCell ⟨w.heap.size, 22, none⟩ (.int .i64 x1)).setCell ⟨w.heap.size, 23, none⟩ (.int .i64 y)) w.heap.size ((V.set 22 x1).set 23 y)) := hid HTV.out.set.set
          have HRX : Hid (((w6.setCell ⟨w.heap.size, 22, none⟩ (.int .i64 x1)).setCell ⟨w.heap.size, 23, none⟩ (.int .i64 y)).heap[w.heap.size + 1]? = some (.cells zero24 57 (0, 0))) := hid (by rw [heap_setCell_other _ ⟨w.heap.size, 23, none⟩ _ _ (by simp)]; rw [heap_setCell_other _ ⟨w.heap.size, 22, none⟩ _ _ (by simp)]; exact HRV.out)
          have HBX : Hid (Below w.heap.size w ((w6.setCell ⟨w.heap.size, 22, none⟩ (.int .i64 x1)).setCell ⟨w.heap.size, 23, none⟩ (.int .i64 y))) := hid ((HBV.out.setCell (p := ⟨w.heap.size, 22, none⟩) (Nat.le_refl _) _).setCell (p := ⟨w.heap.size, 23, none⟩) (Nat.le_refl _) _)
          obtain ⟨w8, hw8⟩ : ∃ z, z = (w6.setCell ⟨w.heap.size, 22, none⟩ (.int .i64 x1)).setCell ⟨w.heap.size, 23, none⟩ (.int .i64 y) := ⟨_, rfl⟩
          rw [← hw8] at HTX HRX HBX ⊢
          clear hw8
          have HSX := hid (size57' HOX.out.len)
          go_wp2_with (first | (refine wpList_load_row rfl 57 _ rfl w.heap.size rfl 57 _ (0, 0) _ HTX.out Try.underlying57 rfl HSX.out ?_) | (refine wpList_store_row rfl 57 _ _ rfl (w.heap.size + 1) (icells ((V.set 22 x1).set 23 y)).toArray rfl rfl 57 _ HRX.out HSX.out (by rw [show zero24.size = 24 from rfl]; simp only [List.size_toArray, icells_len]; exact HOX.out.len.symm) (all_oneCell_toArray (icells_one ((V.set 22 x1).set 23 y))) ?_))
          exact bodyPost_ret (results_cell_row rfl _ _ (w.heap.size + 1) 57 _ (0, 0) _ rfl (setRow_heap _ _ _ _ 57 (0, 0) HRX.out) Try.underlying57 rfl HSX.out) rfl ⟨by rw [HES.out], Below.row HBX.out (by omega) _⟩
        | false =>
          have HOX : Hid (OkT (V.set 22 x1)) := hid (HOV.out.set _ _ (fun h => by omega) (fun _ => HCE.out) (fun h => by omega))
          have HES : Hid (stepT g T = V.set 22 x1) := hid (by rw [HSTE.out, HVN.out, HSE.out]; rfl)
          go_upto_region 16 with (fail)
          have HTX : Hid (ToneAt (w6.setCell ⟨w.heap.size, 22, none⟩ (.int .i64 x1)) w.heap.size (V.set 22 x1)) := hid HTV.out.set
          have HRX : Hid ((w6.setCell ⟨w.heap.size, 22, none⟩ (.int .i64 x1)).heap[w.heap.size + 1]? = some (.cells zero24 57 (0, 0))) := hid (by rw [heap_setCell_other _ ⟨w.heap.size, 22, none⟩ _ _ (by simp)]; exact HRV.out)
          have HBX : Hid (Below w.heap.size w (w6.setCell ⟨w.heap.size, 22, none⟩ (.int .i64 x1))) := hid (HBV.out.setCell (p := ⟨w.heap.size, 22, none⟩) (Nat.le_refl _) _)
          obtain ⟨w8, hw8⟩ : ∃ z, z = w6.setCell ⟨w.heap.size, 22, none⟩ (.int .i64 x1) := ⟨_, rfl⟩
          rw [← hw8] at HTX HRX HBX ⊢
          clear hw8
          have HSX := hid (size57' HOX.out.len)
          go_wp2_with (first | (refine wpList_load_row rfl 57 _ rfl w.heap.size rfl 57 _ (0, 0) _ HTX.out Try.underlying57 rfl HSX.out ?_) | (refine wpList_store_row rfl 57 _ _ rfl (w.heap.size + 1) (icells (V.set 22 x1)).toArray rfl rfl 57 _ HRX.out HSX.out (by rw [show zero24.size = 24 from rfl]; simp only [List.size_toArray, icells_len]; exact HOX.out.len.symm) (all_oneCell_toArray (icells_one (V.set 22 x1))) ?_))
          exact bodyPost_ret (results_cell_row rfl _ _ (w.heap.size + 1) 57 _ (0, 0) _ rfl (setRow_heap _ _ _ _ 57 (0, 0) HRX.out) Try.underlying57 rfl HSX.out) rfl ⟨by rw [HES.out], Below.row HBX.out (by omega) _⟩
      | false =>
        go_upto_region 13 with (fail)
        obtain ⟨V, hV⟩ : ∃ V, V = U.set 20 q1 := ⟨_, rfl⟩
        have HVE := hid hV
        have HVN : Hid (stN U = V) := hid (by rw [HSN.out, hV]; rfl)
        clear hV
        have HTV : Hid (ToneAt (wr.setCell ⟨w.heap.size, 20, none⟩ (.int .i64 q1)) w.heap.size V) := hid (by rw [HVE.out]; exact HA.out.set)
        have HRV : Hid ((wr.setCell ⟨w.heap.size, 20, none⟩ (.int .i64 q1)).heap[w.heap.size + 1]? = some (.cells zero24 57 (0, 0))) := hid (by rw [heap_setCell_other _ ⟨w.heap.size, 20, none⟩ _ _ (by simp)]; exact HR.out)
        have HBV : Hid (Below w.heap.size w (wr.setCell ⟨w.heap.size, 20, none⟩ (.int .i64 q1))) := hid (HB.out.setCell (p := ⟨w.heap.size, 20, none⟩) (Nat.le_refl _) _)
        obtain ⟨w6, hw6⟩ : ∃ z, z = wr.setCell ⟨w.heap.size, 20, none⟩ (.int .i64 q1) := ⟨_, rfl⟩
        rw [← hw6] at HTV HRV HBV ⊢
        clear hw6
        clear hc20 hc6 hc21 hf20 hf21
        have HOV : Hid (OkT V) := hid (by rw [HVE.out]; exact HOK.out.set _ _ (fun h => by omega) (fun _ => HCN.out) (fun h => by omega))
        have get : ∀ i, i < 24 → ∃ v, V[i]? = some v ∧ V.getD i 0 = v := fun i hi => ⟨V[i]'(by rw [HOV.out.len]; exact hi), List.getElem?_eq_getElem _, by rw [List.getD, List.getElem?_eq_getElem (by rw [HOV.out.len]; exact hi)]; rfl⟩
        obtain ⟨ec, hec, hecg⟩ := get 22 (by omega)
        obtain ⟨ra, hra, hrag⟩ := get 11 (by omega)
        obtain ⟨rb, hrb, hrbg⟩ := get 12 (by omega)
        obtain ⟨rs, hrs, hrsg⟩ := get 13 (by omega)
        obtain ⟨st, hst, hstg⟩ := get 23 (by omega)
        have pe := HOV.out.cnt 22 (Or.inr (Or.inr rfl)); rw [hecg] at pe
        have pa := HOV.out.regs 11 (by omega); rw [hrag] at pa
        have pb := HOV.out.regs 12 (by omega); rw [hrbg] at pb
        have ps := HOV.out.regs 13 (by omega); rw [hrsg] at ps
        have pt := HOV.out.step; rw [hstg] at pt
        obtain ⟨pe0, pe1⟩ := pe; obtain ⟨pa0, pa1⟩ := pa; obtain ⟨pb0, pb1⟩ := pb; obtain ⟨ps0, ps1⟩ := ps; obtain ⟨pt0, pt1⟩ := pt
        have hd22 := HTV.out.cell hec; have hd11 := HTV.out.cell hra; have hd12 := HTV.out.cell hrb; have hd13 := HTV.out.cell hrs; have hd23 := HTV.out.cell hst
        have hg22 := HTV.out.frozen (k := 22); have hg23 := HTV.out.frozen (k := 23)
        have HSE : Hid (stE g V = if (cnt ec (max 1 (ra + 256 * rb))).2 then (V.set 22 (cnt ec (max 1 (ra + 256 * rb))).1).set 23 (g (rs % 16) st) else V.set 22 (cnt ec (max 1 (ra + 256 * rb))).1) := hid (by unfold stE; rw [hecg, hrag, hrbg, hrsg, hstg])
        clear get hec hra hrb hrs hst hecg hrag hrbg hrsg hstg
        go_wp2_with fail
        refine (counted_any ec (max 1 (ra + 256 * rb)) w6 pe0 pe1).mono ?_
        rintro e w7 ⟨rfl, rfl⟩
        have HCE := hid (cnt_range ec (max 1 (ra + 256 * rb)) pe0 (by omega))
        obtain ⟨x, hx⟩ : ∃ x, x = cnt ec (max 1 (ra + 256 * rb)) := ⟨_, rfl⟩
        rw [← hx] at HCE HSE ⊢
        obtain ⟨x1, x2⟩ := x
        simp only at HCE HSE ⊢
        clear hx
        cases x2 with
        | true =>
          obtain ⟨hgr, hcall⟩ := HG.out (rs % 16) st pt0 pt1
          have HCL := hid hcall; have HGR := hid hgr
          obtain ⟨y, hy⟩ : ∃ y, g (rs % 16) st = y := ⟨_, rfl⟩
          rw [hy] at HCL HSE HGR
          clear hy hcall hgr
          have HOX : Hid (OkT ((V.set 22 x1).set 23 y)) := hid ((HOV.out.set _ _ (fun h => by omega) (fun _ => HCE.out) (fun h => by omega)).set _ _ (fun h => by omega) (fun h => by omega) (fun _ => HGR.out))
          have HES : Hid (stepT g T = (V.set 22 x1).set 23 y) := hid (by rw [HSTE.out, HVN.out, HSE.out]; rfl)
          go_wp2_with fail
          refine (HCL.out _).mono ?_
          rintro e w9 ⟨rfl, rfl⟩
          go_upto_region 16 with (fail)
          have HTX : Hid (ToneAt ((w6.setCell ⟨w.heap.size, 22, none⟩ (.int .i64 x1)).setCell ⟨w.heap.size, 23, none⟩ (.int .i64 y)) w.heap.size ((V.set 22 x1).set 23 y)) := hid HTV.out.set.set
          have HRX : Hid (((w6.setCell ⟨w.heap.size, 22, none⟩ (.int .i64 x1)).setCell ⟨w.heap.size, 23, none⟩ (.int .i64 y)).heap[w.heap.size + 1]? = some (.cells zero24 57 (0, 0))) := hid (by rw [heap_setCell_other _ ⟨w.heap.size, 23, none⟩ _ _ (by simp)]; rw [heap_setCell_other _ ⟨w.heap.size, 22, none⟩ _ _ (by simp)]; exact HRV.out)
          have HBX : Hid (Below w.heap.size w ((w6.setCell ⟨w.heap.size, 22, none⟩ (.int .i64 x1)).setCell ⟨w.heap.size, 23, none⟩ (.int .i64 y))) := hid ((HBV.out.setCell (p := ⟨w.heap.size, 22, none⟩) (Nat.le_refl _) _).setCell (p := ⟨w.heap.size, 23, none⟩) (Nat.le_refl _) _)
          obtain ⟨w8, hw8⟩ : ∃ z, z = (w6.setCell ⟨w.heap.size, 22, none⟩ (.int .i64 x1)).setCell ⟨w.heap.size, 23, none⟩ (.int .i64 y) := ⟨_, rfl⟩
          rw [← hw8] at HTX HRX HBX ⊢
          clear hw8
          have HSX := hid (size57' HOX.out.len)
          go_wp2_with (first | (refine wpList_load_row rfl 57 _ rfl w.heap.size rfl 57 _ (0, 0) _ HTX.out Try.underlying57 rfl HSX.out ?_) | (refine wpList_store_row rfl 57 _ _ rfl (w.heap.size + 1) (icells ((V.set 22 x1).set 23 y)).toArray rfl rfl 57 _ HRX.out HSX.out (by rw [show zero24.size = 24 from rfl]; simp only [List.size_toArray, icells_len]; exact HOX.out.len.symm) (all_oneCell_toArray (icells_one ((V.set 22 x1).set 23 y))) ?_))
          exact bodyPost_ret (results_cell_row rfl _ _ (w.heap.size + 1) 57 _ (0, 0) _ rfl (setRow_heap _ _ _ _ 57 (0, 0) HRX.out) Try.underlying57 rfl HSX.out) rfl ⟨by rw [HES.out], Below.row HBX.out (by omega) _⟩
        | false =>
          have HOX : Hid (OkT (V.set 22 x1)) := hid (HOV.out.set _ _ (fun h => by omega) (fun _ => HCE.out) (fun h => by omega))
          have HES : Hid (stepT g T = V.set 22 x1) := hid (by rw [HSTE.out, HVN.out, HSE.out]; rfl)
          go_upto_region 16 with (fail)
          have HTX : Hid (ToneAt (w6.setCell ⟨w.heap.size, 22, none⟩ (.int .i64 x1)) w.heap.size (V.set 22 x1)) := hid HTV.out.set
          have HRX : Hid ((w6.setCell ⟨w.heap.size, 22, none⟩ (.int .i64 x1)).heap[w.heap.size + 1]? = some (.cells zero24 57 (0, 0))) := hid (by rw [heap_setCell_other _ ⟨w.heap.size, 22, none⟩ _ _ (by simp)]; exact HRV.out)
          have HBX : Hid (Below w.heap.size w (w6.setCell ⟨w.heap.size, 22, none⟩ (.int .i64 x1))) := hid (HBV.out.setCell (p := ⟨w.heap.size, 22, none⟩) (Nat.le_refl _) _)
          obtain ⟨w8, hw8⟩ : ∃ z, z = w6.setCell ⟨w.heap.size, 22, none⟩ (.int .i64 x1) := ⟨_, rfl⟩
          rw [← hw8] at HTX HRX HBX ⊢
          clear hw8
          have HSX := hid (size57' HOX.out.len)
          go_wp2_with (first | (refine wpList_load_row rfl 57 _ rfl w.heap.size rfl 57 _ (0, 0) _ HTX.out Try.underlying57 rfl HSX.out ?_) | (refine wpList_store_row rfl 57 _ _ rfl (w.heap.size + 1) (icells (V.set 22 x1)).toArray rfl rfl 57 _ HRX.out HSX.out (by rw [show zero24.size = 24 from rfl]; simp only [List.size_toArray, icells_len]; exact HOX.out.len.symm) (all_oneCell_toArray (icells_one (V.set 22 x1))) ?_))
          exact bodyPost_ret (results_cell_row rfl _ _ (w.heap.size + 1) 57 _ (0, 0) _ rfl (setRow_heap _ _ _ _ 57 (0, 0) HRX.out) Try.underlying57 rfl HSX.out) rfl ⟨by rw [HES.out], Below.row HBX.out (by omega) _⟩
end Go.Proofs.Ytmogoaceangblaa
