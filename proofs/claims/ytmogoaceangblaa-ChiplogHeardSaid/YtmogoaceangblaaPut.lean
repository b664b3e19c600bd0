/- chiplog's tape takes an entry, or panics when there are too many. -/
import Derived.Test.YtmogoaceangblaaTape
import Derived.Deep.RegionHeld3
import Derived.Deep.AppendLies
import Derived.Test.YtmogoaceangblaaLate
namespace Go.Proofs.Ytmogoaceangblaa
open Go.RowKit

theorem fold14 (x : List Int) (hx : x.length = 14) : List.foldl (fun (cs : Array Value) (x : Value × Nat) => cs.setIfInBounds x.snd x.fst) #[Value.int IntKind.i64 0, Value.int IntKind.i64 0, Value.int IntKind.i64 0, Value.int IntKind.i64 0, Value.int IntKind.i64 0, Value.int IntKind.i64 0, Value.int IntKind.i64 0, Value.int IntKind.i64 0, Value.int IntKind.i64 0, Value.int IntKind.i64 0, Value.int IntKind.i64 0, Value.int IntKind.i64 0, Value.int IntKind.i64 0, Value.int IntKind.i64 0] (icells x).zipIdx = (icells x).toArray := by
  match x, hx with
  | [x0, x1, x2, x3, x4, x5, x6, x7, x8, x9, x10, x11, x12, x13], _ => simp [icells]
theorem flat_snoc (log : List (List Int)) (x : List Int) : flat (log ++ [x]) = flat log ++ icells x := by simp [flat]
theorem icells_snoc (l : List Int) (x : Int) : icells (l ++ [x]) = icells l ++ [.int .i64 x] := by simp [icells]
/-- What two appends leave, stored into the tape. -/
theorem put_end {w wa wb wc wd : World} {t at_ : Nat} {sb vl vc : Value} {log : List (List Int)} {cyc : List Int} {x : List Int} {cost : Int} {vl' vc' : Value}
    (h : TapeV w t sb at_ log cyc vl vc) (hl : log.length < 4000) (hx : x.length = 14) (b1 : Below w.heap.size w wa) (g1 : wa.grownBy wb vl.ownBlock) (o1 : wb.ownsRow (t + 1) 43 14 vl' (log.length + 1) (flat log ++ icells x))
    (a1 : ∀ q, vl'.ownBlock = some q → vl.ownBlock = some q ∨ q = wa.heap.size) (b2 : Below wb.heap.size wb wc) (g2 : wc.grownBy wd vc.ownBlock) (o2 : wd.ownsRow (t + 1) 3 1 vc' (cyc.length + 1) (icells cyc ++ [.int .i64 cost]))
    (a2 : ∀ q, vc'.ownBlock = some q → vc.ownBlock = some q ∨ q = wc.heap.size) :
    TapeV ((wd.setCell ⟨t, 2, none⟩ vl').setCell ⟨t, 3, none⟩ vc') t sb at_ (log ++ [x]) (cyc ++ [cost]) vl' vc' ∧ Only (Own t vl vc) w ((wd.setCell ⟨t, 2, none⟩ vl').setCell ⟨t, 3, none⟩ vc') ∧ (∀ q, Own t vl' vc' q → Own t vl vc q ∨ w.heap.size ≤ q) := by
  have hlt := h.lt
  have z1 := b1.size
  have z2 := g1.size
  have z3 := b2.size
  have z4 := g2.size
  have hvl : ∀ q, vl.ownBlock = some q → t < q ∧ q < w.heap.size := fun q hq => by have := h.ownL.lt q hq; omega
  have hvc : ∀ q, vc.ownBlock = some q → t < q ∧ q < w.heap.size := fun q hq => by have := h.ownC.lt q hq; omega
  have hk : ∀ q, q < w.heap.size → vl.ownBlock ≠ some q → vc.ownBlock ≠ some q → wd.heap[q]? = w.heap[q]? := fun q hq n1 n2 => by
    rw [g2.block q (by omega) (fun e => n2 e.symm), b2.block q (by omega), g1.block q (by omega) (fun e => n1 e.symm), b1.block q hq]
  have hcd : wd.heap[t]? = some (.cells #[sb, .int .i64 at_, vl, vc] 49 (0, 0)) := by
    rw [hk t hlt (fun e => by have := hvl t e; omega) (fun e => by have := hvc t e; omega)]; exact h.blk
  have hl' : ∀ q, vl'.ownBlock = some q → t < q := fun q hq => by have := o1.lt q hq; omega
  have hc' : ∀ q, vc'.ownBlock = some q → t < q := fun q hq => by have := o2.lt q hq; omega
  have hap : ∀ q, vl'.ownBlock = some q → vc'.ownBlock ≠ some q := fun q hq he => by
    have hqb := o1.lt q hq
    rcases a1 q hq with e1 | e1
    · rcases a2 q he with e2 | e2
      · exact h.apart q e1 e2
      · have := hvl q e1; omega
    · rcases a2 q he with e2 | e2
      · have := hvc q e2; omega
      · omega
  have hog : ∀ q, Own t vl' vc' q → Own t vl vc q ∨ w.heap.size ≤ q := fun q hq => by
    rcases hq with hq | hq | hq
    · exact Or.inl (Or.inl hq)
    · rcases a1 q hq with e | e
      · exact Or.inl (Or.inr (Or.inl e))
      · exact Or.inr (by omega)
    · rcases a2 q hq with e | e
      · exact Or.inl (Or.inr (Or.inr e))
      · exact Or.inr (by omega)
  have hs1 := heap_setCell_same wd t 2 _ 49 vl' hcd
  have hs2 := heap_setCell_same (wd.setCell ⟨t, 2, none⟩ vl') t 3 _ 49 vc' hs1
  have hother : ∀ q, q ≠ t → ((wd.setCell ⟨t, 2, none⟩ vl').setCell ⟨t, 3, none⟩ vc').heap[q]? = wd.heap[q]? := fun q hq => by
    rw [heap_setCell_other _ ⟨t, 3, none⟩ q _ hq, heap_setCell_other _ ⟨t, 2, none⟩ q _ hq]
  refine ⟨⟨by simpa using hs2, ?_, ?_, hap, ?_, by simp [h.eqv], by simp; omega⟩, ?_, hog⟩
  · have o1d : wd.ownsRow (t + 1) 43 14 vl' (log.length + 1) (flat log ++ icells x) := ownsRow_same o1 fun q hq => by
      have hqb := o1.lt q hq
      rw [g2.block q (by omega) (fun e => by
        rcases a1 q hq with e1 | e1
        · exact h.apart q e1 e.symm
        · have := hvc q e.symm; omega), b2.block q hqb.2]
    have := ownsRow_same (w' := (wd.setCell ⟨t, 2, none⟩ vl').setCell ⟨t, 3, none⟩ vc') o1d fun q hq => hother q (by have := hl' q hq; omega)
    rw [flat_snoc]; simpa using this
  · have := ownsRow_same (w' := (wd.setCell ⟨t, 2, none⟩ vl').setCell ⟨t, 3, none⟩ vc') o2 fun q hq => hother q (by have := hc' q hq; omega)
    rw [icells_snoc]; simpa using this
  · intro z hz
    rw [List.mem_append] at hz
    rcases hz with hz | hz
    · exact h.len z hz
    · simp at hz; subst hz; exact hx
  · have h1 : Only (Own t vl vc) w wd := (((Only.ofBelow b1).grown g1 (fun q hq => Or.inl (Or.inr (Or.inl hq)))).trans (Only.ofBelow (O := fun _ => False) b2) (fun _ hf => hf.elim)).grown g2 (fun q hq => Or.inl (Or.inr (Or.inr hq)))
    exact (h1.set _ (Or.inl (Or.inl rfl))).set _ (Or.inl (Or.inl rfl))
theorem put_ownC {w wa wb wc : World} {t at_ : Nat} {sb vl vc : Value} {log : List (List Int)} {cyc : List Int} (h : TapeV w t sb at_ log cyc vl vc) (b1 : Below w.heap.size w wa) (g1 : wa.grownBy wb vl.ownBlock) (b2 : Below wb.heap.size wb wc) :
    wc.ownsRow (t + 1) 3 1 vc cyc.length (icells cyc) := ownsRow_same h.ownC fun q hq => by
  have hqb := h.ownC.lt q hq
  have z1 := b1.size
  have z2 := g1.size
  rw [b2.block q (by omega), g1.block q (by omega) (fun e => h.apart q e.symm hq), b1.block q hqb.2]
theorem made_facts (w : World) (cs : List Value) (ty : TypeId) (b : Nat) (hb : w.heap.size = b) : ∀ j u, cs[j]? = some u → (w.alloc (.cells cs.toArray ty)).cell? ((⟨b, 0, none⟩ : Addr).add j) = some u := by
  intro j u hj
  subst hb
  rw [add_at _ rfl]
  have := range_made w cs.toArray ty j u (by simpa using hj)
  simpa using this
theorem news_keep {w w' : World} {k : Nat} {cs : List Value} (hn : ∀ j u, cs[j]? = some u → w.cell? ((⟨k, 0, none⟩ : Addr).add j) = some u) (hb : Below w.heap.size w w') : ∀ j u, cs[j]? = some u → w'.cell? ((⟨k, 0, none⟩ : Addr).add j) = some u := by
  intro j u hj
  have h0 := hn j u hj
  rw [add_at _ rfl] at h0 ⊢
  exact (hb.cell (World.block_lt_of_cell? w _ h0)).trans h0
theorem news_far {w w' : World} {k : Nat} {cs : List Value} {row : Option Nat} (hn : ∀ j u, cs[j]? = some u → w.cell? ((⟨k, 0, none⟩ : Addr).add j) = some u) (hg : w.grownBy w' row) (hk : some k ≠ row) : ∀ j u, cs[j]? = some u → w'.cell? ((⟨k, 0, none⟩ : Addr).add j) = some u := by
  intro j u hj
  have h0 := hn j u hj
  rw [add_at _ rfl] at h0 ⊢
  exact (hg.cell_far _ (World.block_lt_of_cell? w _ h0) hk).trans h0
theorem put_keep {w wa wb wc wd : World} {t at_ : Nat} {sb vl vc : Value} {log : List (List Int)} {cyc : List Int} (h : TapeV w t sb at_ log cyc vl vc) (b1 : Below w.heap.size w wa) (g1 : wa.grownBy wb vl.ownBlock) (b2 : Below wb.heap.size wb wc) (g2 : wc.grownBy wd vc.ownBlock) :
    wd.heap[t]? = some (.cells #[sb, .int .i64 at_, vl, vc] 49 (0, 0)) := by
  have hlt := h.lt
  have z1 := b1.size
  have z2 := g1.size
  have z3 := b2.size
  rw [g2.block t (by omega) (fun e => by have := h.ownC.lt t e.symm; omega), b2.block t (by omega), g1.block t (by omega) (fun e => by have := h.ownL.lt t e.symm; omega), b1.block t hlt]
  exact h.blk
theorem put_keepR {w wa wb wc wd : World} {t at_ k : Nat} {sb vl vc : Value} {log : List (List Int)} {cyc : List Int} {xs : List Value} (h : TapeV w t sb at_ log cyc vl vc) (hk : w.heap.size ≤ k) (hr : wa.rangeAt k 0 xs) (g1 : wa.grownBy wb vl.ownBlock) (b2 : Below wb.heap.size wb wc) (g2 : wc.grownBy wd vc.ownBlock) : wd.rangeAt k 0 xs := by
  intro j v hj
  have h0 := hr j v hj
  have hl := World.block_lt_of_cell? wa _ h0
  have z2 := g1.size
  have z3 := b2.size
  rw [g2.cell_far _ (show k < _ by have : k < wa.heap.size := hl; omega) (fun e => by have := (h.ownC.lt k e.symm).2; omega), b2.cell (p := ⟨k, 0 + j, none⟩) (show k < _ by have : k < wa.heap.size := hl; omega), g1.cell_far _ hl (fun e => by have := (h.ownL.lt k e.symm).2; omega)]
  exact h0
theorem info75b : (Try.prog.info? 43).map (fun i => (i.zero, i.size, i.bytes)) = some (some (.agg #[.int .i64 0, .int .i64 0, .int .i64 0, .int .i64 0, .int .i64 0, .int .i64 0, .int .i64 0, .int .i64 0, .int .i64 0, .int .i64 0, .int .i64 0, .int .i64 0, .int .i64 0, .int .i64 0]), 14, 112) := info75
set_option maxHeartbeats 1000000 in
theorem tput_full (w : World) (t : Nat) (sb : Value) (at_ : Nat) (log : List (List Int)) (cyc : List Int) (vl vc : Value) (x : List Int) (cost : Int)
    (h : TapeV w t sb at_ log cyc vl vc) (hl : log.length = 4000) :
    Calls Try.prog 40 #[.pointer (some ⟨t, 0, none⟩), .agg (icells x).toArray, .int .i64 cost] w fun e w' => e = .panicked (errno 4) ∧ Only (Own t vl vc) w w' := by
  have HH := hid h
  have HT : Hid (t < w.heap.size) := hid h.lt
  obtain ⟨A, c, rfl, _⟩ := owned_form h.ownL
  have hc2 := cell_of_cells (k := 2) h.blk rfl
  have hc2' := (Below.grow (Below.refl w.heap.size w) (.cells (icells x).toArray 43)).cell (p := ⟨t, 2, none⟩) h.lt
  rw [hc2] at hc2'
  rw [hl] at hc2'
  have HL := hid hl
  clear hc2 hl h
  go_enter Try.func40, Try.ntmps40
  go_wp2
  exact ⟨rfl, rfl, (Only.refl _ w).alloc _⟩

set_option maxHeartbeats 8000000 in
set_option maxRecDepth 100000 in
theorem tput_ok (w : World) (t : Nat) (sb : Value) (at_ : Nat) (log : List (List Int)) (cyc : List Int) (vl vc : Value) (x : List Int) (cost : Int)
    (h : TapeV w t sb at_ log cyc vl vc) (hl : log.length < 4000) (hx : x.length = 14) :
    Calls Try.prog 40 #[.pointer (some ⟨t, 0, none⟩), .agg (icells x).toArray, .int .i64 cost] w fun e w' => e = .returned (.tuple #[]) ∧
      ∃ vl' vc', TapeV w' t sb at_ (log ++ [x]) (cyc ++ [cost]) vl' vc' ∧ Only (Own t vl vc) w w' ∧ (∀ q, Own t vl' vc' q → Own t vl vc q ∨ w.heap.size ≤ q) := by
  have HH := hid h
  have HL := hid hl
  have hlt : t < w.heap.size := h.lt
  obtain ⟨A, c, rfl, _⟩ := owned_form h.ownL
  obtain ⟨A2, c2, rfl, _⟩ := owned_form h.ownC
  have hc2 := cell_of_cells (k := 2) h.blk rfl
  have hc3 := cell_of_cells (k := 3) h.blk rfl
  have hne : ((log.length : Int) == 4000) = false := by rw [beq_eq_false_iff_ne]; omega
  have hsz : (Try.prog.info? 43).map (·.size) = some (icells x).length := by rw [icells_len, hx]; exact size75
  have hu75 := Try.underlying43
  have HX := hid hx
  clear hl h hx
  go_enter Try.func40, Try.ntmps40
  go_wp2_with fail
  have hw1 : Below w.heap.size w (w.alloc (Obj.cells (icells x).toArray 43)) := Below.grow (Below.refl _ _) _
  have hxr : (w.alloc (Obj.cells (icells x).toArray 43)).rangeAt w.heap.size 0 (icells x) := by simpa using range_made w (icells x).toArray 43
  have hs1 : (w.alloc (Obj.cells (icells x).toArray 43)).heap.size = w.heap.size + 1 := by simp
  obtain ⟨i1, hi1, hy0, hy1, hy2⟩ := info_parts info75b
  obtain ⟨i2, hi2, hz0, hz1, hz2⟩ := info_parts info3
  have HI1 := hid hi1; have HY0 := hid hy0; have HY1 := hid hy1; have HY2 := hid hy2; have HI2 := hid hi2; have HZ0 := hid hz0; have HZ1 := hid hz1; have HZ2 := hid hz2
  clear hi1 hy0 hy1 hy2 hi2 hz0 hz1 hz2
  generalize hww : w.alloc (Obj.cells (icells x).toArray 43) = w1 at *
  have HS : (fun w' : World => w'.cell? ⟨t, 2, none⟩ = some (.slice A log.length c) ∧ w'.cell? ⟨t, 3, none⟩ = some (.slice A2 cyc.length c2) ∧ w'.rangeAt w.heap.size 0 (icells x)) w1.drew := ⟨(hw1.cell (p := ⟨t, 2, none⟩) hlt).trans hc2, (hw1.cell (p := ⟨t, 3, none⟩) hlt).trans hc3, hxr⟩
  refine wp_region_late (S := fun w' => w'.cell? ⟨t, 2, none⟩ = some (.slice A log.length c) ∧ w'.cell? ⟨t, 3, none⟩ = some (.slice A2 cyc.length c2) ∧ w'.rangeAt w.heap.size 0 (icells x)) [18, 21] (by kernel_rfl) ?_
  have HSC : Hid (w1.cell? ⟨t, 2, none⟩ = some (.slice A log.length c) ∧ w1.cell? ⟨t, 3, none⟩ = some (.slice A2 cyc.length c2) ∧ w1.rangeAt w.heap.size 0 (icells x)) := hid HS
  have HW1 := hid hw1
  have hB : Below w.heap.size w w1.drew := hw1.drew
  have HCL : Hid (cyc.length < 4000) := hid (by rw [HH.out.eqv]; exact HL.out)
  clear hww hxr hc2 hc3 hne hw1
  refine wpLate_pure (i := 0) (oi := { dst := some 13, op := Op.move (Operand.tmp 0), type := 45, pos := "chiplog.go:173", after := #[], guard := none }) (v := ?va_0) rfl (by kernel_rfl) (by kernel_rfl) (by kernel_rfl) (by first | rfl | simp) (fun _ _ _ h => h) (Or.inl ⟨by rfl, ?ha_0⟩) (fun _ => HS) ?ra_0
  case ha_0 => (intro w _; go_simp; try with_reducible rfl)
  (try simp only [Act.put, List.setIfInBounds_toArray, List.set_cons_zero, List.set_cons_succ])
  refine wpLate_pure (i := 1) (oi := { dst := some 14, op := Op.move (Operand.tmp 0), type := 45, pos := "chiplog.go:173", after := #[{ on := 18, ground := Ground.gcOnly Departure.lateStores }], guard := none }) (v := ?va_1) rfl (by kernel_rfl) (by kernel_rfl) (by kernel_rfl) (by first | rfl | simp) (fun _ _ _ h => h) (Or.inl ⟨by rfl, ?ha_1⟩) (fun _ => HS) ?ra_1
  case ha_1 => (intro w _; go_simp; try with_reducible rfl)
  (try simp only [Act.put, List.setIfInBounds_toArray, List.set_cons_zero, List.set_cons_succ])
  refine wpLate_pure (i := 2) (oi := { dst := some 15, op := Op.move (Operand.tmp 0), type := 45, pos := "chiplog.go:173", after := #[], guard := none }) (v := ?va_2) rfl (by kernel_rfl) (by kernel_rfl) (by kernel_rfl) (by first | rfl | simp) (fun _ _ _ h => h) (Or.inl ⟨by rfl, ?ha_2⟩) (fun _ => HS) ?ra_2
  case ha_2 => (intro w _; go_simp; try with_reducible rfl)
  (try simp only [Act.put, List.setIfInBounds_toArray, List.set_cons_zero, List.set_cons_succ])
  refine wpLate_pure (i := 3) (oi := { dst := some 16, op := Op.nilCheck (Operand.tmp 15), type := 0, pos := "chiplog.go:173", after := #[{ on := 2, ground := Ground.data }], guard := none }) (v := ?va_3) rfl (by kernel_rfl) (by kernel_rfl) (by kernel_rfl) (by first | rfl | simp) (fun _ _ _ h => h) (Or.inl ⟨by rfl, ?ha_3⟩) (fun _ => HS) ?ra_3
  case ha_3 => (intro w _; go_simp; try with_reducible rfl)
  (try simp only [Act.put, List.setIfInBounds_toArray, List.set_cons_zero, List.set_cons_succ])
  refine wpLate_pure (i := 4) (oi := { dst := some 17, op := Op.fieldAddr 49 (Operand.tmp 16) 2, type := 0, pos := "chiplog.go:173", after := #[{ on := 3, ground := Ground.data }], guard := none }) (v := ?va_4) rfl (by kernel_rfl) (by kernel_rfl) (by kernel_rfl) (by first | rfl | simp) (fun _ _ _ h => h) (Or.inl ⟨by rfl, ?ha_4⟩) (fun _ => HS) ?ra_4
  case ha_4 => (intro w _; go_simp; try with_reducible rfl)
  (try simp only [Act.put, List.setIfInBounds_toArray, List.set_cons_zero, List.set_cons_succ])
  refine wpLate_take (i := 5) (oi := { dst := some 18, op := Op.load 35 (Operand.tmp 17), type := 35, pos := "chiplog.go:173", after := #[{ on := 4, ground := Ground.data }], guard := none }) (v := ?va_5) rfl (by kernel_rfl) (by kernel_rfl) (by kernel_rfl) (by kernel_rfl) (by kernel_rfl) (fun _ _ _ h => h) (Or.inl ⟨by rfl, ?ha_5⟩) HS ?ra_5
  case ha_5 => (intro w hSw; obtain ⟨hS1, hS2, hS3⟩ := hSw; go_simp; try with_reducible rfl)
  (try simp only [Act.put, List.setIfInBounds_toArray, List.set_cons_zero, List.set_cons_succ])
  refine wpLate_take (i := 6) (oi := { dst := some 19, op := Op.load 43 (Operand.tmp 4), type := 43, pos := "chiplog.go:173", after := #[], guard := none }) rfl (by kernel_rfl) (by kernel_rfl) (by kernel_rfl) (by kernel_rfl) (by kernel_rfl) (fun _ _ _ h => h) (yieldsIf_load_mid (by rfl) 43 _ rfl w.heap.size 0 rfl (icells x) _ (fun w h => h.2.2) hu75 rfl hsz) HS ?_
  (try simp only [Act.put, List.setIfInBounds_toArray, List.set_cons_zero, List.set_cons_succ])
  refine wpLate_pure (i := 9) (oi := { dst := some 22, op := Op.move (Operand.tmp 0), type := 45, pos := "chiplog.go:173", after := #[], guard := none }) (v := ?va_9) rfl (by kernel_rfl) (by kernel_rfl) (by kernel_rfl) (by first | rfl | simp) (fun _ _ _ h => h) (Or.inl ⟨by rfl, ?ha_9⟩) (fun _ => HS) ?ra_9
  case ha_9 => (intro w _; go_simp; try with_reducible rfl)
  (try simp only [Act.put, List.setIfInBounds_toArray, List.set_cons_zero, List.set_cons_succ])
  refine wpLate_pure (i := 10) (oi := { dst := some 23, op := Op.nilCheck (Operand.tmp 22), type := 0, pos := "chiplog.go:173", after := #[{ on := 9, ground := Ground.data }], guard := none }) (v := ?va_10) rfl (by kernel_rfl) (by kernel_rfl) (by kernel_rfl) (by first | rfl | simp) (fun _ _ _ h => h) (Or.inl ⟨by rfl, ?ha_10⟩) (fun _ => HS) ?ra_10
  case ha_10 => (intro w _; go_simp; try with_reducible rfl)
  (try simp only [Act.put, List.setIfInBounds_toArray, List.set_cons_zero, List.set_cons_succ])
  refine wpLate_pure (i := 11) (oi := { dst := some 24, op := Op.fieldAddr 49 (Operand.tmp 23) 3, type := 0, pos := "chiplog.go:173", after := #[{ on := 10, ground := Ground.data }], guard := none }) (v := ?va_11) rfl (by kernel_rfl) (by kernel_rfl) (by kernel_rfl) (by first | rfl | simp) (fun _ _ _ h => h) (Or.inl ⟨by rfl, ?ha_11⟩) (fun _ => HS) ?ra_11
  case ha_11 => (intro w _; go_simp; try with_reducible rfl)
  (try simp only [Act.put, List.setIfInBounds_toArray, List.set_cons_zero, List.set_cons_succ])
  refine wpLate_take (i := 12) (oi := { dst := some 25, op := Op.load 30 (Operand.tmp 24), type := 30, pos := "chiplog.go:173", after := #[{ on := 11, ground := Ground.data }], guard := none }) (v := ?va_12) rfl (by kernel_rfl) (by kernel_rfl) (by kernel_rfl) (by kernel_rfl) (by kernel_rfl) (fun _ _ _ h => h) (Or.inl ⟨by rfl, ?ha_12⟩) HS ?ra_12
  case ha_12 => (intro w hSw; obtain ⟨hS1, hS2, hS3⟩ := hSw; go_simp; try with_reducible rfl)
  (try simp only [Act.put, List.setIfInBounds_toArray, List.set_cons_zero, List.set_cons_succ])
  refine wpLate_pure (i := 13) (oi := { dst := some 26, op := Op.move (Operand.tmp 2), type := 3, pos := "chiplog.go:173", after := #[], guard := none }) (v := ?va_13) rfl (by kernel_rfl) (by kernel_rfl) (by kernel_rfl) (by first | rfl | simp) (fun _ _ _ h => h) (Or.inl ⟨by rfl, ?ha_13⟩) (fun _ => HS) ?ra_13
  case ha_13 => (intro w _; go_simp; try with_reducible rfl)
  (try simp only [Act.put, List.setIfInBounds_toArray, List.set_cons_zero, List.set_cons_succ])
  obtain ⟨wz, hwz⟩ : ∃ wz, wz = w1.drew := ⟨_, rfl⟩
  rw [← hwz]
  have HBz : Hid (Below w1.heap.size w1 wz) := hid (by rw [hwz]; exact (Below.refl _ _).drew)
  have hzz : wz.heap.size = w.heap.size + 1 := by rw [hwz]; exact hs1
  clear hwz
  have HQwz : Hid (wz.cell? ⟨t, 2, none⟩ = some (.slice A log.length c) ∧ wz.cell? ⟨t, 3, none⟩ = some (.slice A2 cyc.length c2) ∧ wz.rangeAt w.heap.size 0 (icells x)) := hid ⟨(HBz.out.cell (p := ⟨t, 2, none⟩) (show t < _ by omega)).trans HSC.out.1, (HBz.out.cell (p := ⟨t, 3, none⟩) (show t < _ by omega)).trans HSC.out.2.1, rangeAt_below HSC.out.2.2 HBz.out⟩
  refine wpLate_all (rs := [7, 14]) (by kernel_rfl) (by simp) ?_
  intro i hi
  simp only [List.mem_cons, List.not_mem_nil, or_false] at hi
  rcases hi with rfl | rfl
  · refine wpOp_do (oi := { dst := some 20, op := Op.buildSlice 35 1 #[(0, Operand.tmp 19)], type := 35, pos := "chiplog.go:173", after := #[{ on := 6, ground := Ground.data }], guard := none }) rfl (by rfl) ?_
    go_simp
    rw [if_neg (by have := HX.out; rw [icells_len]; omega), fold14 x HX.out]
    go_simp
    obtain ⟨wp, hw_wp⟩ : ∃ z, z = wz.alloc (Obj.cells (icells x).toArray 43) := ⟨_, rfl⟩
    rw [← hw_wp]
    have HBwp : Hid (Below wz.heap.size wz wp) := hid (by rw [hw_wp]; exact Below.grow (Below.refl _ _) _)
    have HNwp : Hid (∀ j u, (icells x)[j]? = some u → wp.cell? ((⟨w.heap.size + 1, 0, none⟩ : Addr).add j) = some u) := hid (by rw [hw_wp]; exact made_facts wz (icells x) 43 _ (by omega))
    have hz_wp : wp.heap.size = w.heap.size + 1 + 1 := by rw [hw_wp]; simp; omega
    clear hw_wp
    have HQwp : Hid (wp.cell? ⟨t, 2, none⟩ = some (.slice A log.length c) ∧ wp.cell? ⟨t, 3, none⟩ = some (.slice A2 cyc.length c2) ∧ wp.rangeAt w.heap.size 0 (icells x)) := hid ⟨(HBwp.out.cell (p := ⟨t, 2, none⟩) (show t < _ by omega)).trans HQwz.out.1, (HBwp.out.cell (p := ⟨t, 3, none⟩) (show t < _ by omega)).trans HQwz.out.2.1, rangeAt_below HQwz.out.2.2 HBwp.out⟩
    refine ⟨(by
      refine ⟨?_, ?_, ?_⟩
      · (first | exact HQwp.out.1 | exact HQwz.out.1)
      · (first | exact HQwp.out.2.1 | exact HQwz.out.2.1)
      · (first | exact HQwp.out.2.2 | exact HQwz.out.2.2)), ?_⟩
    refine wpLate_all (rs := [8, 14]) (by kernel_rfl) (by simp) ?_
    intro i hi
    simp only [List.mem_cons, List.not_mem_nil, or_false] at hi
    rcases hi with rfl | rfl
    · refine wpOp_do (oi := { dst := some 21, op := Op.call { callee := Callee.builtin Builtin.append, args := #[Operand.tmp 18, Operand.tmp 20], argTypes := #[35, 35] }, type := 35, pos := "chiplog.go:173", after := #[{ on := 5, ground := Ground.data }, { on := 7, ground := Ground.data }], guard := none }) rfl (by rfl) ?_
      refine wp_append_lies _ _ _ _ rfl (t + 1) 43 i1 _ 14 112 Try.underlying35 HI1.out HY0.out HY1.out HY2.out rfl (by omega) (.slice A log.length c) log.length (flat log) (by rfl) (HH.out.below (HW1.out.trans (Below.mono (Below.step HBz.out HBwp.out) (by omega)))).ownL ⟨w.heap.size + 1, 0, none⟩ 1 1 (icells x) (by rfl) (by rw [icells_len]; have := HX.out; omega) HNwp.out (icells_one x) (by omega) (by have := HL.out; unfold maxLen; omega) (by have := HL.out; omega) (by omega) _ rfl ?_
      intro g8 cap8 wb ho8 hg8 ha8 _
      have HG8 := hid hg8; have HO8 := hid ho8
      have HA8 : Hid (∀ q, (Value.slice (some ⟨g8, 0, none⟩) (log.length + 1) cap8).ownBlock = some q → (Value.slice A log.length c).ownBlock = some q ∨ q = wp.heap.size) := hid (fun q hq => by
        simp only [Value.ownBlock, Option.some.injEq] at hq
        subst hq
        exact ha8)
      have hz_wb : wp.heap.size ≤ wb.heap.size := hg8.size
      have HQwb : Hid (wb.cell? ⟨t, 2, none⟩ = some (.slice A log.length c) ∧ wb.cell? ⟨t, 3, none⟩ = some (.slice A2 cyc.length c2) ∧ wb.rangeAt w.heap.size 0 (icells x)) := hid ⟨(hg8.cell_far ⟨t, 2, none⟩ (by simp; omega) (fun e => by have := HH.out.ownL.lt t e.symm; omega)).trans HQwp.out.1, (hg8.cell_far ⟨t, 3, none⟩ (by simp; omega) (fun e => by have := HH.out.ownL.lt t e.symm; omega)).trans HQwp.out.2.1, fun j v hj => (hg8.cell_far ⟨w.heap.size, 0 + j, none⟩ (by simp; omega) (fun e => by have := HH.out.ownL.lt _ e.symm; simp at this)).trans (HQwp.out.2.2 j v hj)⟩
      clear ho8 hg8 ha8
      simp only [Act.put, List.setIfInBounds_toArray, List.set_cons_zero, List.set_cons_succ]
      refine ⟨fun _ => HQwb.out, ?_⟩
      refine wpLate_all (rs := [14]) (by kernel_rfl) (by simp) ?_
      intro i hi
      simp only [List.mem_cons, List.not_mem_nil, or_false] at hi
      subst hi
      refine wpOp_do (oi := { dst := some 27, op := Op.buildSlice 30 1 #[(0, Operand.tmp 26)], type := 30, pos := "chiplog.go:173", after := #[{ on := 13, ground := Ground.data }], guard := none }) rfl (by rfl) ?_
      go_simp
      obtain ⟨wc, hw_wc⟩ : ∃ z, z = wb.alloc (Obj.cells #[Value.int IntKind.i64 cost] 3) := ⟨_, rfl⟩
      rw [← hw_wc]
      have HBwc : Hid (Below wb.heap.size wb wc) := hid (by rw [hw_wc]; exact Below.grow (Below.refl _ _) _)
      have HNwc : Hid (∀ j u, ([Value.int IntKind.i64 cost])[j]? = some u → wc.cell? ((⟨wb.heap.size, 0, none⟩ : Addr).add j) = some u) := hid (by rw [hw_wc]; exact made_facts wb ([Value.int IntKind.i64 cost]) 3 _ (by omega))
      have hz_wc : wc.heap.size = wb.heap.size + 1 := by rw [hw_wc]; simp
      clear hw_wc
      have HQwc : Hid (wc.cell? ⟨t, 2, none⟩ = some (.slice A log.length c) ∧ wc.cell? ⟨t, 3, none⟩ = some (.slice A2 cyc.length c2) ∧ wc.rangeAt w.heap.size 0 (icells x)) := hid ⟨(HBwc.out.cell (p := ⟨t, 2, none⟩) (show t < _ by omega)).trans HQwb.out.1, (HBwc.out.cell (p := ⟨t, 3, none⟩) (show t < _ by omega)).trans HQwb.out.2.1, rangeAt_below HQwb.out.2.2 HBwc.out⟩
      refine ⟨(by
        refine ⟨?_, ?_, ?_⟩
        · (first | exact HQwc.out.1 | exact HQwb.out.1)
        · (first | exact HQwc.out.2.1 | exact HQwb.out.2.1)
        · (first | exact HQwc.out.2.2 | exact HQwb.out.2.2)), ?_⟩
      refine wpLate_all (rs := [15]) (by kernel_rfl) (by simp) ?_
      intro i hi
      simp only [List.mem_cons, List.not_mem_nil, or_false] at hi
      subst hi
      refine wpOp_do (oi := { dst := some 28, op := Op.call { callee := Callee.builtin Builtin.append, args := #[Operand.tmp 25, Operand.tmp 27], argTypes := #[30, 30] }, type := 30, pos := "chiplog.go:173", after := #[{ on := 12, ground := Ground.data }, { on := 14, ground := Ground.data }, { on := 8, ground := Ground.chain }], guard := none }) rfl (by rfl) ?_
      refine wp_append_lies _ _ _ _ rfl (t + 1) 3 i2 _ 1 8 Try.underlying30 HI2.out HZ0.out HZ1.out HZ2.out rfl (by omega) (.slice A2 cyc.length c2) cyc.length (icells cyc) (by rfl) (put_ownC HH.out (HW1.out.trans (Below.mono (Below.step HBz.out HBwp.out) (by omega))) HG8.out HBwc.out) ⟨wb.heap.size, 0, none⟩ 1 1 [Value.int IntKind.i64 cost] (by rfl) rfl HNwc.out (by simp [Value.oneCell']) (by omega) (by have := HCL.out; unfold maxLen; omega) (by have := HCL.out; omega) (by omega) _ rfl ?_
      intro g15 cap15 wd ho15 hg15 ha15 _
      have HEND : Hid _ := hid (put_end (x := x) (cost := cost) HH.out HL.out HX.out (HW1.out.trans (Below.mono (Below.step HBz.out HBwp.out) (by omega))) HG8.out HO8.out HA8.out HBwc.out hg15 ho15 (fun q hq => by
        simp only [Value.ownBlock, Option.some.injEq] at hq
        subst hq
        exact ha15))
      have HT3 : Hid (wd.heap[t]? = some (.cells #[sb, .int .i64 at_, .slice A log.length c, .slice A2 cyc.length c2] 49 (0, 0))) := hid (put_keep HH.out (HW1.out.trans (Below.mono (Below.step HBz.out HBwp.out) (by omega))) HG8.out HBwc.out hg15)
      have HG15 := hid hg15
      have HQT : Hid (wd.cell? ⟨t, 2, none⟩ = some (.slice A log.length c) ∧ wd.cell? ⟨t, 3, none⟩ = some (.slice A2 cyc.length c2) ∧ wd.rangeAt w.heap.size 0 (icells x)) := hid ⟨cell_of_cells (k := 2) HT3.out rfl, cell_of_cells (k := 3) HT3.out rfl, put_keepR HH.out (Nat.le_refl _) HQwp.out.2.2 HG8.out HBwc.out hg15⟩
      clear ho15 hg15 ha15
      simp only [Act.put, List.setIfInBounds_toArray, List.set_cons_zero, List.set_cons_succ]
      refine ⟨fun _ => ⟨cell_of_cells (k := 2) HT3.out rfl, cell_of_cells (k := 3) HT3.out rfl, put_keepR HH.out (Nat.le_refl _) HQwp.out.2.2 HG8.out HBwc.out HG15.out⟩, ?_⟩
      refine wpLate_pure (i := 16) (oi := { dst := some 29, op := Op.nilCheck (Operand.tmp 13), type := 0, pos := "chiplog.go:173", after := #[{ on := 0, ground := Ground.data }, { on := 0, ground := Ground.phase }, { on := 1, ground := Ground.textOnly Departure.lateStores }, { on := 2, ground := Ground.phase }, { on := 3, ground := Ground.phase }, { on := 4, ground := Ground.phase }, { on := 5, ground := Ground.phase }, { on := 6, ground := Ground.phase }, { on := 7, ground := Ground.phase }, { on := 8, ground := Ground.phase }, { on := 9, ground := Ground.textOnly Departure.lateStores }, { on := 10, ground := Ground.textOnly Departure.lateStoresUnsure }, { on := 11, ground := Ground.textOnly Departure.lateStoresUnsure }, { on := 12, ground := Ground.phase }, { on := 13, ground := Ground.textOnly Departure.lateStores }, { on := 14, ground := Ground.textOnly Departure.lateStoresUnsure }, { on := 15, ground := Ground.phase }], guard := none }) (v := ?vb_16) rfl (by kernel_rfl) (by kernel_rfl) (by kernel_rfl) (by first | rfl | simp) (fun _ _ _ h => h) (Or.inl ⟨by rfl, ?hb_16⟩) (by intro _; exact HQT.out) ?rb_16
      case hb_16 => (intro w _; go_simp; try with_reducible rfl)
      (try simp only [Act.put, List.setIfInBounds_toArray, List.set_cons_zero, List.set_cons_succ])
      refine wpLate_pure (i := 17) (oi := { dst := some 30, op := Op.fieldAddr 49 (Operand.tmp 29) 2, type := 0, pos := "chiplog.go:173", after := #[{ on := 16, ground := Ground.data }, { on := 0, ground := Ground.phase }, { on := 1, ground := Ground.textOnly Departure.lateStores }, { on := 2, ground := Ground.phase }, { on := 3, ground := Ground.phase }, { on := 4, ground := Ground.phase }, { on := 5, ground := Ground.phase }, { on := 6, ground := Ground.phase }, { on := 7, ground := Ground.phase }, { on := 8, ground := Ground.phase }, { on := 9, ground := Ground.textOnly Departure.lateStores }, { on := 10, ground := Ground.textOnly Departure.lateStoresUnsure }, { on := 11, ground := Ground.textOnly Departure.lateStoresUnsure }, { on := 12, ground := Ground.phase }, { on := 13, ground := Ground.textOnly Departure.lateStores }, { on := 14, ground := Ground.textOnly Departure.lateStoresUnsure }, { on := 15, ground := Ground.phase }], guard := none }) (v := ?vb_17) rfl (by kernel_rfl) (by kernel_rfl) (by kernel_rfl) (by first | rfl | simp) (fun _ _ _ h => h) (Or.inl ⟨by rfl, ?hb_17⟩) (by intro _; exact HQT.out) ?rb_17
      case hb_17 => (intro w _; go_simp; try with_reducible rfl)
      (try simp only [Act.put, List.setIfInBounds_toArray, List.set_cons_zero, List.set_cons_succ])
      have hf2 := frozen_of_cells (k := 2) HT3.out
      have hc2 := HQT.out.1
      have hf3 := frozen_of_cells (k := 3) HT3.out
      have hc3 := HQT.out.2.1
      refine wpLate_all (rs := [18]) (by kernel_rfl) (by simp) ?_
      intro i hi
      simp only [List.mem_cons, List.not_mem_nil, or_false] at hi
      subst hi
      refine wpOp_do (oi := { dst := none, op := Op.store 35 (Operand.tmp 30) (Operand.tmp 21), type := 0, pos := "chiplog.go:173", after := #[{ on := 17, ground := Ground.data }, { on := 8, ground := Ground.data }, { on := 15, ground := Ground.chain }, { on := 0, ground := Ground.phase }, { on := 1, ground := Ground.textOnly Departure.lateStores }, { on := 2, ground := Ground.phase }, { on := 3, ground := Ground.phase }, { on := 4, ground := Ground.phase }, { on := 5, ground := Ground.phase }, { on := 6, ground := Ground.phase }, { on := 7, ground := Ground.phase }, { on := 8, ground := Ground.phase }, { on := 9, ground := Ground.textOnly Departure.lateStores }, { on := 10, ground := Ground.textOnly Departure.lateStoresUnsure }, { on := 11, ground := Ground.textOnly Departure.lateStoresUnsure }, { on := 12, ground := Ground.phase }, { on := 13, ground := Ground.textOnly Departure.lateStores }, { on := 14, ground := Ground.textOnly Departure.lateStoresUnsure }, { on := 15, ground := Ground.phase }], guard := none }) rfl (by rfl) ?_
      go_simp
      refine wpLate_pure (i := 19) (oi := { dst := some 31, op := Op.nilCheck (Operand.tmp 14), type := 0, pos := "chiplog.go:173", after := #[{ on := 1, ground := Ground.data }, { on := 0, ground := Ground.phase }, { on := 1, ground := Ground.phase }, { on := 2, ground := Ground.phase }, { on := 3, ground := Ground.phase }, { on := 4, ground := Ground.phase }, { on := 5, ground := Ground.phase }, { on := 6, ground := Ground.phase }, { on := 7, ground := Ground.phase }, { on := 8, ground := Ground.phase }, { on := 9, ground := Ground.phase }, { on := 10, ground := Ground.phase }, { on := 11, ground := Ground.phase }, { on := 12, ground := Ground.phase }, { on := 13, ground := Ground.phase }, { on := 14, ground := Ground.phase }, { on := 15, ground := Ground.phase }, { on := 16, ground := Ground.phase }, { on := 17, ground := Ground.phase }, { on := 18, ground := Ground.phase }], guard := none }) (v := ?vb_19) rfl (by kernel_rfl) (by kernel_rfl) (by kernel_rfl) (by first | rfl | simp) (fun _ _ _ h => h) (Or.inl ⟨by rfl, ?hb_19⟩) (fun h => by cases h) ?rb_19
      case hb_19 => (intro w _; go_simp; try with_reducible rfl)
      (try simp only [Act.put, List.setIfInBounds_toArray, List.set_cons_zero, List.set_cons_succ])
      refine wpLate_pure (i := 20) (oi := { dst := some 32, op := Op.fieldAddr 49 (Operand.tmp 31) 3, type := 0, pos := "chiplog.go:173", after := #[{ on := 19, ground := Ground.data }, { on := 0, ground := Ground.phase }, { on := 1, ground := Ground.phase }, { on := 2, ground := Ground.phase }, { on := 3, ground := Ground.phase }, { on := 4, ground := Ground.phase }, { on := 5, ground := Ground.phase }, { on := 6, ground := Ground.phase }, { on := 7, ground := Ground.phase }, { on := 8, ground := Ground.phase }, { on := 9, ground := Ground.phase }, { on := 10, ground := Ground.phase }, { on := 11, ground := Ground.phase }, { on := 12, ground := Ground.phase }, { on := 13, ground := Ground.phase }, { on := 14, ground := Ground.phase }, { on := 15, ground := Ground.phase }, { on := 16, ground := Ground.phase }, { on := 17, ground := Ground.phase }, { on := 18, ground := Ground.phase }], guard := none }) (v := ?vb_20) rfl (by kernel_rfl) (by kernel_rfl) (by kernel_rfl) (by first | rfl | simp) (fun _ _ _ h => h) (Or.inl ⟨by rfl, ?hb_20⟩) (fun h => by cases h) ?rb_20
      case hb_20 => (intro w _; go_simp; try with_reducible rfl)
      (try simp only [Act.put, List.setIfInBounds_toArray, List.set_cons_zero, List.set_cons_succ])
      refine wpLate_all (rs := [21]) (by kernel_rfl) (by simp) ?_
      intro i hi
      simp only [List.mem_cons, List.not_mem_nil, or_false] at hi
      subst hi
      refine wpOp_do (oi := { dst := none, op := Op.store 30 (Operand.tmp 32) (Operand.tmp 28), type := 0, pos := "chiplog.go:173", after := #[{ on := 20, ground := Ground.data }, { on := 15, ground := Ground.data }, { on := 18, ground := Ground.chain }, { on := 0, ground := Ground.phase }, { on := 1, ground := Ground.phase }, { on := 2, ground := Ground.phase }, { on := 3, ground := Ground.phase }, { on := 4, ground := Ground.phase }, { on := 5, ground := Ground.phase }, { on := 6, ground := Ground.phase }, { on := 7, ground := Ground.phase }, { on := 8, ground := Ground.phase }, { on := 9, ground := Ground.phase }, { on := 10, ground := Ground.phase }, { on := 11, ground := Ground.phase }, { on := 12, ground := Ground.phase }, { on := 13, ground := Ground.phase }, { on := 14, ground := Ground.phase }, { on := 15, ground := Ground.phase }, { on := 16, ground := Ground.phase }, { on := 17, ground := Ground.phase }, { on := 18, ground := Ground.phase }], guard := none }) rfl (by rfl) ?_
      go_simp
      refine wpLate_done (by kernel_rfl) ?_ _
      go_wp2
      go_end0
      exact ⟨rfl, _, _, HEND.out⟩
    · refine wpOp_do (oi := { dst := some 27, op := Op.buildSlice 30 1 #[(0, Operand.tmp 26)], type := 30, pos := "chiplog.go:173", after := #[{ on := 13, ground := Ground.data }], guard := none }) rfl (by rfl) ?_
      go_simp
      obtain ⟨wq, hw_wq⟩ : ∃ z, z = wp.alloc (Obj.cells #[Value.int IntKind.i64 cost] 3) := ⟨_, rfl⟩
      rw [← hw_wq]
      have HBwq : Hid (Below wp.heap.size wp wq) := hid (by rw [hw_wq]; exact Below.grow (Below.refl _ _) _)
      have HNwq : Hid (∀ j u, ([Value.int IntKind.i64 cost])[j]? = some u → wq.cell? ((⟨w.heap.size + 1 + 1, 0, none⟩ : Addr).add j) = some u) := hid (by rw [hw_wq]; exact made_facts wp ([Value.int IntKind.i64 cost]) 3 _ (by omega))
      have hz_wq : wq.heap.size = w.heap.size + 1 + 1 + 1 := by rw [hw_wq]; simp; omega
      clear hw_wq
      have HQwq : Hid (wq.cell? ⟨t, 2, none⟩ = some (.slice A log.length c) ∧ wq.cell? ⟨t, 3, none⟩ = some (.slice A2 cyc.length c2) ∧ wq.rangeAt w.heap.size 0 (icells x)) := hid ⟨(HBwq.out.cell (p := ⟨t, 2, none⟩) (show t < _ by omega)).trans HQwp.out.1, (HBwq.out.cell (p := ⟨t, 3, none⟩) (show t < _ by omega)).trans HQwp.out.2.1, rangeAt_below HQwp.out.2.2 HBwq.out⟩
      refine ⟨(by
        refine ⟨?_, ?_, ?_⟩
        · (first | exact HQwq.out.1 | exact HQwp.out.1)
        · (first | exact HQwq.out.2.1 | exact HQwp.out.2.1)
        · (first | exact HQwq.out.2.2 | exact HQwp.out.2.2)), ?_⟩
      refine wpLate_all (rs := [8]) (by kernel_rfl) (by simp) ?_
      intro i hi
      simp only [List.mem_cons, List.not_mem_nil, or_false] at hi
      subst hi
      refine wpOp_do (oi := { dst := some 21, op := Op.call { callee := Callee.builtin Builtin.append, args := #[Operand.tmp 18, Operand.tmp 20], argTypes := #[35, 35] }, type := 35, pos := "chiplog.go:173", after := #[{ on := 5, ground := Ground.data }, { on := 7, ground := Ground.data }], guard := none }) rfl (by rfl) ?_
      refine wp_append_lies _ _ _ _ rfl (t + 1) 43 i1 _ 14 112 Try.underlying35 HI1.out HY0.out HY1.out HY2.out rfl (by omega) (.slice A log.length c) log.length (flat log) (by rfl) (HH.out.below (HW1.out.trans (Below.mono (Below.step HBz.out (Below.step HBwp.out HBwq.out)) (by omega)))).ownL ⟨w.heap.size + 1, 0, none⟩ 1 1 (icells x) (by rfl) (by rw [icells_len]; have := HX.out; omega) (news_keep HNwp.out HBwq.out) (icells_one x) (by omega) (by have := HL.out; unfold maxLen; omega) (by have := HL.out; omega) (by omega) _ rfl ?_
      intro g8 cap8 wb ho8 hg8 ha8 _
      have HG8 := hid hg8; have HO8 := hid ho8
      have HA8 : Hid (∀ q, (Value.slice (some ⟨g8, 0, none⟩) (log.length + 1) cap8).ownBlock = some q → (Value.slice A log.length c).ownBlock = some q ∨ q = wq.heap.size) := hid (fun q hq => by
        simp only [Value.ownBlock, Option.some.injEq] at hq
        subst hq
        exact ha8)
      have hz_wb : wq.heap.size ≤ wb.heap.size := hg8.size
      have HQwb : Hid (wb.cell? ⟨t, 2, none⟩ = some (.slice A log.length c) ∧ wb.cell? ⟨t, 3, none⟩ = some (.slice A2 cyc.length c2) ∧ wb.rangeAt w.heap.size 0 (icells x)) := hid ⟨(hg8.cell_far ⟨t, 2, none⟩ (by simp; omega) (fun e => by have := HH.out.ownL.lt t e.symm; omega)).trans HQwq.out.1, (hg8.cell_far ⟨t, 3, none⟩ (by simp; omega) (fun e => by have := HH.out.ownL.lt t e.symm; omega)).trans HQwq.out.2.1, fun j v hj => (hg8.cell_far ⟨w.heap.size, 0 + j, none⟩ (by simp; omega) (fun e => by have := HH.out.ownL.lt _ e.symm; simp at this)).trans (HQwq.out.2.2 j v hj)⟩
      clear ho8 hg8 ha8
      simp only [Act.put, List.setIfInBounds_toArray, List.set_cons_zero, List.set_cons_succ]
      refine ⟨fun _ => HQwb.out, ?_⟩
      refine wpLate_all (rs := [15]) (by kernel_rfl) (by simp) ?_
      intro i hi
      simp only [List.mem_cons, List.not_mem_nil, or_false] at hi
      subst hi
      refine wpOp_do (oi := { dst := some 28, op := Op.call { callee := Callee.builtin Builtin.append, args := #[Operand.tmp 25, Operand.tmp 27], argTypes := #[30, 30] }, type := 30, pos := "chiplog.go:173", after := #[{ on := 12, ground := Ground.data }, { on := 14, ground := Ground.data }, { on := 8, ground := Ground.chain }], guard := none }) rfl (by rfl) ?_
      refine wp_append_lies _ _ _ _ rfl (t + 1) 3 i2 _ 1 8 Try.underlying30 HI2.out HZ0.out HZ1.out HZ2.out rfl (by omega) (.slice A2 cyc.length c2) cyc.length (icells cyc) (by rfl) (put_ownC HH.out (HW1.out.trans (Below.mono (Below.step HBz.out (Below.step HBwp.out HBwq.out)) (by omega))) HG8.out (Below.refl _ _)) ⟨w.heap.size + 1 + 1, 0, none⟩ 1 1 [Value.int IntKind.i64 cost] (by rfl) rfl (news_far HNwq.out HG8.out (fun e => by have := HH.out.ownL.lt _ e.symm; omega)) (by simp [Value.oneCell']) (by omega) (by have := HCL.out; unfold maxLen; omega) (by have := HCL.out; omega) (by omega) _ rfl ?_
      intro g15 cap15 wd ho15 hg15 ha15 _
      have HEND : Hid _ := hid (put_end (x := x) (cost := cost) HH.out HL.out HX.out (HW1.out.trans (Below.mono (Below.step HBz.out (Below.step HBwp.out HBwq.out)) (by omega))) HG8.out HO8.out HA8.out (Below.refl _ _) hg15 ho15 (fun q hq => by
        simp only [Value.ownBlock, Option.some.injEq] at hq
        subst hq
        exact ha15))
      have HT3 : Hid (wd.heap[t]? = some (.cells #[sb, .int .i64 at_, .slice A log.length c, .slice A2 cyc.length c2] 49 (0, 0))) := hid (put_keep HH.out (HW1.out.trans (Below.mono (Below.step HBz.out (Below.step HBwp.out HBwq.out)) (by omega))) HG8.out (Below.refl _ _) hg15)
      have HG15 := hid hg15
      have HQT : Hid (wd.cell? ⟨t, 2, none⟩ = some (.slice A log.length c) ∧ wd.cell? ⟨t, 3, none⟩ = some (.slice A2 cyc.length c2) ∧ wd.rangeAt w.heap.size 0 (icells x)) := hid ⟨cell_of_cells (k := 2) HT3.out rfl, cell_of_cells (k := 3) HT3.out rfl, put_keepR HH.out (Nat.le_refl _) HQwq.out.2.2 HG8.out (Below.refl _ _) hg15⟩
      clear ho15 hg15 ha15
      simp only [Act.put, List.setIfInBounds_toArray, List.set_cons_zero, List.set_cons_succ]
      refine ⟨fun _ => ⟨cell_of_cells (k := 2) HT3.out rfl, cell_of_cells (k := 3) HT3.out rfl, put_keepR HH.out (Nat.le_refl _) HQwq.out.2.2 HG8.out (Below.refl _ _) HG15.out⟩, ?_⟩
      refine wpLate_pure (i := 16) (oi := { dst := some 29, op := Op.nilCheck (Operand.tmp 13), type := 0, pos := "chiplog.go:173", after := #[{ on := 0, ground := Ground.data }, { on := 0, ground := Ground.phase }, { on := 1, ground := Ground.textOnly Departure.lateStores }, { on := 2, ground := Ground.phase }, { on := 3, ground := Ground.phase }, { on := 4, ground := Ground.phase }, { on := 5, ground := Ground.phase }, { on := 6, ground := Ground.phase }, { on := 7, ground := Ground.phase }, { on := 8, ground := Ground.phase }, { on := 9, ground := Ground.textOnly Departure.lateStores }, { on := 10, ground := Ground.textOnly Departure.lateStoresUnsure }, { on := 11, ground := Ground.textOnly Departure.lateStoresUnsure }, { on := 12, ground := Ground.phase }, { on := 13, ground := Ground.textOnly Departure.lateStores }, { on := 14, ground := Ground.textOnly Departure.lateStoresUnsure }, { on := 15, ground := Ground.phase }], guard := none }) (v := ?vc_16) rfl (by kernel_rfl) (by kernel_rfl) (by kernel_rfl) (by first | rfl | simp) (fun _ _ _ h => h) (Or.inl ⟨by rfl, ?hc_16⟩) (by intro _; exact HQT.out) ?rc_16
      case hc_16 => (intro w _; go_simp; try with_reducible rfl)
      (try simp only [Act.put, List.setIfInBounds_toArray, List.set_cons_zero, List.set_cons_succ])
      refine wpLate_pure (i := 17) (oi := { dst := some 30, op := Op.fieldAddr 49 (Operand.tmp 29) 2, type := 0, pos := "chiplog.go:173", after := #[{ on := 16, ground := Ground.data }, { on := 0, ground := Ground.phase }, { on := 1, ground := Ground.textOnly Departure.lateStores }, { on := 2, ground := Ground.phase }, { on := 3, ground := Ground.phase }, { on := 4, ground := Ground.phase }, { on := 5, ground := Ground.phase }, { on := 6, ground := Ground.phase }, { on := 7, ground := Ground.phase }, { on := 8, ground := Ground.phase }, { on := 9, ground := Ground.textOnly Departure.lateStores }, { on := 10, ground := Ground.textOnly Departure.lateStoresUnsure }, { on := 11, ground := Ground.textOnly Departure.lateStoresUnsure }, { on := 12, ground := Ground.phase }, { on := 13, ground := Ground.textOnly Departure.lateStores }, { on := 14, ground := Ground.textOnly Departure.lateStoresUnsure }, { on := 15, ground := Ground.phase }], guard := none }) (v := ?vc_17) rfl (by kernel_rfl) (by kernel_rfl) (by kernel_rfl) (by first | rfl | simp) (fun _ _ _ h => h) (Or.inl ⟨by rfl, ?hc_17⟩) (by intro _; exact HQT.out) ?rc_17
      case hc_17 => (intro w _; go_simp; try with_reducible rfl)
      (try simp only [Act.put, List.setIfInBounds_toArray, List.set_cons_zero, List.set_cons_succ])
      have hf2 := frozen_of_cells (k := 2) HT3.out
      have hc2 := HQT.out.1
      have hf3 := frozen_of_cells (k := 3) HT3.out
      have hc3 := HQT.out.2.1
      refine wpLate_all (rs := [18]) (by kernel_rfl) (by simp) ?_
      intro i hi
      simp only [List.mem_cons, List.not_mem_nil, or_false] at hi
      subst hi
      refine wpOp_do (oi := { dst := none, op := Op.store 35 (Operand.tmp 30) (Operand.tmp 21), type := 0, pos := "chiplog.go:173", after := #[{ on := 17, ground := Ground.data }, { on := 8, ground := Ground.data }, { on := 15, ground := Ground.chain }, { on := 0, ground := Ground.phase }, { on := 1, ground := Ground.textOnly Departure.lateStores }, { on := 2, ground := Ground.phase }, { on := 3, ground := Ground.phase }, { on := 4, ground := Ground.phase }, { on := 5, ground := Ground.phase }, { on := 6, ground := Ground.phase }, { on := 7, ground := Ground.phase }, { on := 8, ground := Ground.phase }, { on := 9, ground := Ground.textOnly Departure.lateStores }, { on := 10, ground := Ground.textOnly Departure.lateStoresUnsure }, { on := 11, ground := Ground.textOnly Departure.lateStoresUnsure }, { on := 12, ground := Ground.phase }, { on := 13, ground := Ground.textOnly Departure.lateStores }, { on := 14, ground := Ground.textOnly Departure.lateStoresUnsure }, { on := 15, ground := Ground.phase }], guard := none }) rfl (by rfl) ?_
      go_simp
      refine wpLate_pure (i := 19) (oi := { dst := some 31, op := Op.nilCheck (Operand.tmp 14), type := 0, pos := "chiplog.go:173", after := #[{ on := 1, ground := Ground.data }, { on := 0, ground := Ground.phase }, { on := 1, ground := Ground.phase }, { on := 2, ground := Ground.phase }, { on := 3, ground := Ground.phase }, { on := 4, ground := Ground.phase }, { on := 5, ground := Ground.phase }, { on := 6, ground := Ground.phase }, { on := 7, ground := Ground.phase }, { on := 8, ground := Ground.phase }, { on := 9, ground := Ground.phase }, { on := 10, ground := Ground.phase }, { on := 11, ground := Ground.phase }, { on := 12, ground := Ground.phase }, { on := 13, ground := Ground.phase }, { on := 14, ground := Ground.phase }, { on := 15, ground := Ground.phase }, { on := 16, ground := Ground.phase }, { on := 17, ground := Ground.phase }, { on := 18, ground := Ground.phase }], guard := none }) (v := ?vc_19) rfl (by kernel_rfl) (by kernel_rfl) (by kernel_rfl) (by first | rfl | simp) (fun _ _ _ h => h) (Or.inl ⟨by rfl, ?hc_19⟩) (fun h => by cases h) ?rc_19
      case hc_19 => (intro w _; go_simp; try with_reducible rfl)
      (try simp only [Act.put, List.setIfInBounds_toArray, List.set_cons_zero, List.set_cons_succ])
      refine wpLate_pure (i := 20) (oi := { dst := some 32, op := Op.fieldAddr 49 (Operand.tmp 31) 3, type := 0, pos := "chiplog.go:173", after := #[{ on := 19, ground := Ground.data }, { on := 0, ground := Ground.phase }, { on := 1, ground := Ground.phase }, { on := 2, ground := Ground.phase }, { on := 3, ground := Ground.phase }, { on := 4, ground := Ground.phase }, { on := 5, ground := Ground.phase }, { on := 6, ground := Ground.phase }, { on := 7, ground := Ground.phase }, { on := 8, ground := Ground.phase }, { on := 9, ground := Ground.phase }, { on := 10, ground := Ground.phase }, { on := 11, ground := Ground.phase }, { on := 12, ground := Ground.phase }, { on := 13, ground := Ground.phase }, { on := 14, ground := Ground.phase }, { on := 15, ground := Ground.phase }, { on := 16, ground := Ground.phase }, { on := 17, ground := Ground.phase }, { on := 18, ground := Ground.phase }], guard := none }) (v := ?vc_20) rfl (by kernel_rfl) (by kernel_rfl) (by kernel_rfl) (by first | rfl | simp) (fun _ _ _ h => h) (Or.inl ⟨by rfl, ?hc_20⟩) (fun h => by cases h) ?rc_20
      case hc_20 => (intro w _; go_simp; try with_reducible rfl)
      (try simp only [Act.put, List.setIfInBounds_toArray, List.set_cons_zero, List.set_cons_succ])
      refine wpLate_all (rs := [21]) (by kernel_rfl) (by simp) ?_
      intro i hi
      simp only [List.mem_cons, List.not_mem_nil, or_false] at hi
      subst hi
      refine wpOp_do (oi := { dst := none, op := Op.store 30 (Operand.tmp 32) (Operand.tmp 28), type := 0, pos := "chiplog.go:173", after := #[{ on := 20, ground := Ground.data }, { on := 15, ground := Ground.data }, { on := 18, ground := Ground.chain }, { on := 0, ground := Ground.phase }, { on := 1, ground := Ground.phase }, { on := 2, ground := Ground.phase }, { on := 3, ground := Ground.phase }, { on := 4, ground := Ground.phase }, { on := 5, ground := Ground.phase }, { on := 6, ground := Ground.phase }, { on := 7, ground := Ground.phase }, { on := 8, ground := Ground.phase }, { on := 9, ground := Ground.phase }, { on := 10, ground := Ground.phase }, { on := 11, ground := Ground.phase }, { on := 12, ground := Ground.phase }, { on := 13, ground := Ground.phase }, { on := 14, ground := Ground.phase }, { on := 15, ground := Ground.phase }, { on := 16, ground := Ground.phase }, { on := 17, ground := Ground.phase }, { on := 18, ground := Ground.phase }], guard := none }) rfl (by rfl) ?_
      go_simp
      refine wpLate_done (by kernel_rfl) ?_ _
      go_wp2
      go_end0
      exact ⟨rfl, _, _, HEND.out⟩
  · refine wpOp_do (oi := { dst := some 27, op := Op.buildSlice 30 1 #[(0, Operand.tmp 26)], type := 30, pos := "chiplog.go:173", after := #[{ on := 13, ground := Ground.data }], guard := none }) rfl (by rfl) ?_
    go_simp
    obtain ⟨wp, hw_wp⟩ : ∃ z, z = wz.alloc (Obj.cells #[Value.int IntKind.i64 cost] 3) := ⟨_, rfl⟩
    rw [← hw_wp]
    have HBwp : Hid (Below wz.heap.size wz wp) := hid (by rw [hw_wp]; exact Below.grow (Below.refl _ _) _)
    have HNwp : Hid (∀ j u, ([Value.int IntKind.i64 cost])[j]? = some u → wp.cell? ((⟨w.heap.size + 1, 0, none⟩ : Addr).add j) = some u) := hid (by rw [hw_wp]; exact made_facts wz ([Value.int IntKind.i64 cost]) 3 _ (by omega))
    have hz_wp : wp.heap.size = w.heap.size + 1 + 1 := by rw [hw_wp]; simp; omega
    clear hw_wp
    have HQwp : Hid (wp.cell? ⟨t, 2, none⟩ = some (.slice A log.length c) ∧ wp.cell? ⟨t, 3, none⟩ = some (.slice A2 cyc.length c2) ∧ wp.rangeAt w.heap.size 0 (icells x)) := hid ⟨(HBwp.out.cell (p := ⟨t, 2, none⟩) (show t < _ by omega)).trans HQwz.out.1, (HBwp.out.cell (p := ⟨t, 3, none⟩) (show t < _ by omega)).trans HQwz.out.2.1, rangeAt_below HQwz.out.2.2 HBwp.out⟩
    refine ⟨(by
      refine ⟨?_, ?_, ?_⟩
      · (first | exact HQwp.out.1 | exact HQwz.out.1)
      · (first | exact HQwp.out.2.1 | exact HQwz.out.2.1)
      · (first | exact HQwp.out.2.2 | exact HQwz.out.2.2)), ?_⟩
    refine wpLate_all (rs := [7]) (by kernel_rfl) (by simp) ?_
    intro i hi
    simp only [List.mem_cons, List.not_mem_nil, or_false] at hi
    subst hi
    refine wpOp_do (oi := { dst := some 20, op := Op.buildSlice 35 1 #[(0, Operand.tmp 19)], type := 35, pos := "chiplog.go:173", after := #[{ on := 6, ground := Ground.data }], guard := none }) rfl (by rfl) ?_
    go_simp
    rw [if_neg (by have := HX.out; rw [icells_len]; omega), fold14 x HX.out]
    go_simp
    obtain ⟨wq, hw_wq⟩ : ∃ z, z = wp.alloc (Obj.cells (icells x).toArray 43) := ⟨_, rfl⟩
    rw [← hw_wq]
    have HBwq : Hid (Below wp.heap.size wp wq) := hid (by rw [hw_wq]; exact Below.grow (Below.refl _ _) _)
    have HNwq : Hid (∀ j u, (icells x)[j]? = some u → wq.cell? ((⟨w.heap.size + 1 + 1, 0, none⟩ : Addr).add j) = some u) := hid (by rw [hw_wq]; exact made_facts wp (icells x) 43 _ (by omega))
    have hz_wq : wq.heap.size = w.heap.size + 1 + 1 + 1 := by rw [hw_wq]; simp; omega
    clear hw_wq
    have HQwq : Hid (wq.cell? ⟨t, 2, none⟩ = some (.slice A log.length c) ∧ wq.cell? ⟨t, 3, none⟩ = some (.slice A2 cyc.length c2) ∧ wq.rangeAt w.heap.size 0 (icells x)) := hid ⟨(HBwq.out.cell (p := ⟨t, 2, none⟩) (show t < _ by omega)).trans HQwp.out.1, (HBwq.out.cell (p := ⟨t, 3, none⟩) (show t < _ by omega)).trans HQwp.out.2.1, rangeAt_below HQwp.out.2.2 HBwq.out⟩
    refine ⟨(by
      refine ⟨?_, ?_, ?_⟩
      · (first | exact HQwq.out.1 | exact HQwp.out.1)
      · (first | exact HQwq.out.2.1 | exact HQwp.out.2.1)
      · (first | exact HQwq.out.2.2 | exact HQwp.out.2.2)), ?_⟩
    refine wpLate_all (rs := [8]) (by kernel_rfl) (by simp) ?_
    intro i hi
    simp only [List.mem_cons, List.not_mem_nil, or_false] at hi
    subst hi
    refine wpOp_do (oi := { dst := some 21, op := Op.call { callee := Callee.builtin Builtin.append, args := #[Operand.tmp 18, Operand.tmp 20], argTypes := #[35, 35] }, type := 35, pos := "chiplog.go:173", after := #[{ on := 5, ground := Ground.data }, { on := 7, ground := Ground.data }], guard := none }) rfl (by rfl) ?_
    refine wp_append_lies _ _ _ _ rfl (t + 1) 43 i1 _ 14 112 Try.underlying35 HI1.out HY0.out HY1.out HY2.out rfl (by omega) (.slice A log.length c) log.length (flat log) (by rfl) (HH.out.below (HW1.out.trans (Below.mono (Below.step HBz.out (Below.step HBwp.out HBwq.out)) (by omega)))).ownL ⟨w.heap.size + 1 + 1, 0, none⟩ 1 1 (icells x) (by rfl) (by rw [icells_len]; have := HX.out; omega) HNwq.out (icells_one x) (by omega) (by have := HL.out; unfold maxLen; omega) (by have := HL.out; omega) (by omega) _ rfl ?_
    intro g8 cap8 wb ho8 hg8 ha8 _
    have HG8 := hid hg8; have HO8 := hid ho8
    have HA8 : Hid (∀ q, (Value.slice (some ⟨g8, 0, none⟩) (log.length + 1) cap8).ownBlock = some q → (Value.slice A log.length c).ownBlock = some q ∨ q = wq.heap.size) := hid (fun q hq => by
      simp only [Value.ownBlock, Option.some.injEq] at hq
      subst hq
      exact ha8)
    have hz_wb : wq.heap.size ≤ wb.heap.size := hg8.size
    have HQwb : Hid (wb.cell? ⟨t, 2, none⟩ = some (.slice A log.length c) ∧ wb.cell? ⟨t, 3, none⟩ = some (.slice A2 cyc.length c2) ∧ wb.rangeAt w.heap.size 0 (icells x)) := hid ⟨(hg8.cell_far ⟨t, 2, none⟩ (by simp; omega) (fun e => by have := HH.out.ownL.lt t e.symm; omega)).trans HQwq.out.1, (hg8.cell_far ⟨t, 3, none⟩ (by simp; omega) (fun e => by have := HH.out.ownL.lt t e.symm; omega)).trans HQwq.out.2.1, fun j v hj => (hg8.cell_far ⟨w.heap.size, 0 + j, none⟩ (by simp; omega) (fun e => by have := HH.out.ownL.lt _ e.symm; simp at this)).trans (HQwq.out.2.2 j v hj)⟩
    clear ho8 hg8 ha8
    simp only [Act.put, List.setIfInBounds_toArray, List.set_cons_zero, List.set_cons_succ]
    refine ⟨fun _ => HQwb.out, ?_⟩
    refine wpLate_all (rs := [15]) (by kernel_rfl) (by simp) ?_
    intro i hi
    simp only [List.mem_cons, List.not_mem_nil, or_false] at hi
    subst hi
    refine wpOp_do (oi := { dst := some 28, op := Op.call { callee := Callee.builtin Builtin.append, args := #[Operand.tmp 25, Operand.tmp 27], argTypes := #[30, 30] }, type := 30, pos := "chiplog.go:173", after := #[{ on := 12, ground := Ground.data }, { on := 14, ground := Ground.data }, { on := 8, ground := Ground.chain }], guard := none }) rfl (by rfl) ?_
    refine wp_append_lies _ _ _ _ rfl (t + 1) 3 i2 _ 1 8 Try.underlying30 HI2.out HZ0.out HZ1.out HZ2.out rfl (by omega) (.slice A2 cyc.length c2) cyc.length (icells cyc) (by rfl) (put_ownC HH.out (HW1.out.trans (Below.mono (Below.step HBz.out (Below.step HBwp.out HBwq.out)) (by omega))) HG8.out (Below.refl _ _)) ⟨w.heap.size + 1, 0, none⟩ 1 1 [Value.int IntKind.i64 cost] (by rfl) rfl (news_far (news_keep HNwp.out HBwq.out) HG8.out (fun e => by have := HH.out.ownL.lt _ e.symm; omega)) (by simp [Value.oneCell']) (by omega) (by have := HCL.out; unfold maxLen; omega) (by have := HCL.out; omega) (by omega) _ rfl ?_
    intro g15 cap15 wd ho15 hg15 ha15 _
    have HEND : Hid _ := hid (put_end (x := x) (cost := cost) HH.out HL.out HX.out (HW1.out.trans (Below.mono (Below.step HBz.out (Below.step HBwp.out HBwq.out)) (by omega))) HG8.out HO8.out HA8.out (Below.refl _ _) hg15 ho15 (fun q hq => by
      simp only [Value.ownBlock, Option.some.injEq] at hq
      subst hq
      exact ha15))
    have HT3 : Hid (wd.heap[t]? = some (.cells #[sb, .int .i64 at_, .slice A log.length c, .slice A2 cyc.length c2] 49 (0, 0))) := hid (put_keep HH.out (HW1.out.trans (Below.mono (Below.step HBz.out (Below.step HBwp.out HBwq.out)) (by omega))) HG8.out (Below.refl _ _) hg15)
    have HG15 := hid hg15
    have HQT : Hid (wd.cell? ⟨t, 2, none⟩ = some (.slice A log.length c) ∧ wd.cell? ⟨t, 3, none⟩ = some (.slice A2 cyc.length c2) ∧ wd.rangeAt w.heap.size 0 (icells x)) := hid ⟨cell_of_cells (k := 2) HT3.out rfl, cell_of_cells (k := 3) HT3.out rfl, put_keepR HH.out (Nat.le_refl _) HQwq.out.2.2 HG8.out (Below.refl _ _) hg15⟩
    clear ho15 hg15 ha15
    simp only [Act.put, List.setIfInBounds_toArray, List.set_cons_zero, List.set_cons_succ]
    refine ⟨fun _ => ⟨cell_of_cells (k := 2) HT3.out rfl, cell_of_cells (k := 3) HT3.out rfl, put_keepR HH.out (Nat.le_refl _) HQwq.out.2.2 HG8.out (Below.refl _ _) HG15.out⟩, ?_⟩
    refine wpLate_pure (i := 16) (oi := { dst := some 29, op := Op.nilCheck (Operand.tmp 13), type := 0, pos := "chiplog.go:173", after := #[{ on := 0, ground := Ground.data }, { on := 0, ground := Ground.phase }, { on := 1, ground := Ground.textOnly Departure.lateStores }, { on := 2, ground := Ground.phase }, { on := 3, ground := Ground.phase }, { on := 4, ground := Ground.phase }, { on := 5, ground := Ground.phase }, { on := 6, ground := Ground.phase }, { on := 7, ground := Ground.phase }, { on := 8, ground := Ground.phase }, { on := 9, ground := Ground.textOnly Departure.lateStores }, { on := 10, ground := Ground.textOnly Departure.lateStoresUnsure }, { on := 11, ground := Ground.textOnly Departure.lateStoresUnsure }, { on := 12, ground := Ground.phase }, { on := 13, ground := Ground.textOnly Departure.lateStores }, { on := 14, ground := Ground.textOnly Departure.lateStoresUnsure }, { on := 15, ground := Ground.phase }], guard := none }) (v := ?vd_16) rfl (by kernel_rfl) (by kernel_rfl) (by kernel_rfl) (by first | rfl | simp) (fun _ _ _ h => h) (Or.inl ⟨by rfl, ?hd_16⟩) (by intro _; exact HQT.out) ?rd_16
    case hd_16 => (intro w _; go_simp; try with_reducible rfl)
    (try simp only [Act.put, List.setIfInBounds_toArray, List.set_cons_zero, List.set_cons_succ])
    refine wpLate_pure (i := 17) (oi := { dst := some 30, op := Op.fieldAddr 49 (Operand.tmp 29) 2, type := 0, pos := "chiplog.go:173", after := #[{ on := 16, ground := Ground.data }, { on := 0, ground := Ground.phase }, { on := 1, ground := Ground.textOnly Departure.lateStores }, { on := 2, ground := Ground.phase }, { on := 3, ground := Ground.phase }, { on := 4, ground := Ground.phase }, { on := 5, ground := Ground.phase }, { on := 6, ground := Ground.phase }, { on := 7, ground := Ground.phase }, { on := 8, ground := Ground.phase }, { on := 9, ground := Ground.textOnly Departure.lateStores }, { on := 10, ground := Ground.textOnly Departure.lateStoresUnsure }, { on := 11, ground := Ground.textOnly Departure.lateStoresUnsure }, { on := 12, ground := Ground.phase }, { on := 13, ground := Ground.textOnly Departure.lateStores }, { on := 14, ground := Ground.textOnly Departure.lateStoresUnsure }, { on := 15, ground := Ground.phase }], guard := none }) (v := ?vd_17) rfl (by kernel_rfl) (by kernel_rfl) (by kernel_rfl) (by first | rfl | simp) (fun _ _ _ h => h) (Or.inl ⟨by rfl, ?hd_17⟩) (by intro _; exact HQT.out) ?rd_17
    case hd_17 => (intro w _; go_simp; try with_reducible rfl)
    (try simp only [Act.put, List.setIfInBounds_toArray, List.set_cons_zero, List.set_cons_succ])
    have hf2 := frozen_of_cells (k := 2) HT3.out
    have hc2 := HQT.out.1
    have hf3 := frozen_of_cells (k := 3) HT3.out
    have hc3 := HQT.out.2.1
    refine wpLate_all (rs := [18]) (by kernel_rfl) (by simp) ?_
    intro i hi
    simp only [List.mem_cons, List.not_mem_nil, or_false] at hi
    subst hi
    refine wpOp_do (oi := { dst := none, op := Op.store 35 (Operand.tmp 30) (Operand.tmp 21), type := 0, pos := "chiplog.go:173", after := #[{ on := 17, ground := Ground.data }, { on := 8, ground := Ground.data }, { on := 15, ground := Ground.chain }, { on := 0, ground := Ground.phase }, { on := 1, ground := Ground.textOnly Departure.lateStores }, { on := 2, ground := Ground.phase }, { on := 3, ground := Ground.phase }, { on := 4, ground := Ground.phase }, { on := 5, ground := Ground.phase }, { on := 6, ground := Ground.phase }, { on := 7, ground := Ground.phase }, { on := 8, ground := Ground.phase }, { on := 9, ground := Ground.textOnly Departure.lateStores }, { on := 10, ground := Ground.textOnly Departure.lateStoresUnsure }, { on := 11, ground := Ground.textOnly Departure.lateStoresUnsure }, { on := 12, ground := Ground.phase }, { on := 13, ground := Ground.textOnly Departure.lateStores }, { on := 14, ground := Ground.textOnly Departure.lateStoresUnsure }, { on := 15, ground := Ground.phase }], guard := none }) rfl (by rfl) ?_
    go_simp
    refine wpLate_pure (i := 19) (oi := { dst := some 31, op := Op.nilCheck (Operand.tmp 14), type := 0, pos := "chiplog.go:173", after := #[{ on := 1, ground := Ground.data }, { on := 0, ground := Ground.phase }, { on := 1, ground := Ground.phase }, { on := 2, ground := Ground.phase }, { on := 3, ground := Ground.phase }, { on := 4, ground := Ground.phase }, { on := 5, ground := Ground.phase }, { on := 6, ground := Ground.phase }, { on := 7, ground := Ground.phase }, { on := 8, ground := Ground.phase }, { on := 9, ground := Ground.phase }, { on := 10, ground := Ground.phase }, { on := 11, ground := Ground.phase }, { on := 12, ground := Ground.phase }, { on := 13, ground := Ground.phase }, { on := 14, ground := Ground.phase }, { on := 15, ground := Ground.phase }, { on := 16, ground := Ground.phase }, { on := 17, ground := Ground.phase }, { on := 18, ground := Ground.phase }], guard := none }) (v := ?vd_19) rfl (by kernel_rfl) (by kernel_rfl) (by kernel_rfl) (by first | rfl | simp) (fun _ _ _ h => h) (Or.inl ⟨by rfl, ?hd_19⟩) (fun h => by cases h) ?rd_19
    case hd_19 => (intro w _; go_simp; try with_reducible rfl)
    (try simp only [Act.put, List.setIfInBounds_toArray, List.set_cons_zero, List.set_cons_succ])
    refine wpLate_pure (i := 20) (oi := { dst := some 32, op := Op.fieldAddr 49 (Operand.tmp 31) 3, type := 0, pos := "chiplog.go:173", after := #[{ on := 19, ground := Ground.data }, { on := 0, ground := Ground.phase }, { on := 1, ground := Ground.phase }, { on := 2, ground := Ground.phase }, { on := 3, ground := Ground.phase }, { on := 4, ground := Ground.phase }, { on := 5, ground := Ground.phase }, { on := 6, ground := Ground.phase }, { on := 7, ground := Ground.phase }, { on := 8, ground := Ground.phase }, { on := 9, ground := Ground.phase }, { on := 10, ground := Ground.phase }, { on := 11, ground := Ground.phase }, { on := 12, ground := Ground.phase }, { on := 13, ground := Ground.phase }, { on := 14, ground := Ground.phase }, { on := 15, ground := Ground.phase }, { on := 16, ground := Ground.phase }, { on := 17, ground := Ground.phase }, { on := 18, ground := Ground.phase }], guard := none }) (v := ?vd_20) rfl (by kernel_rfl) (by kernel_rfl) (by kernel_rfl) (by first | rfl | simp) (fun _ _ _ h => h) (Or.inl ⟨by rfl, ?hd_20⟩) (fun h => by cases h) ?rd_20
    case hd_20 => (intro w _; go_simp; try with_reducible rfl)
    (try simp only [Act.put, List.setIfInBounds_toArray, List.set_cons_zero, List.set_cons_succ])
    refine wpLate_all (rs := [21]) (by kernel_rfl) (by simp) ?_
    intro i hi
    simp only [List.mem_cons, List.not_mem_nil, or_false] at hi
    subst hi
    refine wpOp_do (oi := { dst := none, op := Op.store 30 (Operand.tmp 32) (Operand.tmp 28), type := 0, pos := "chiplog.go:173", after := #[{ on := 20, ground := Ground.data }, { on := 15, ground := Ground.data }, { on := 18, ground := Ground.chain }, { on := 0, ground := Ground.phase }, { on := 1, ground := Ground.phase }, { on := 2, ground := Ground.phase }, { on := 3, ground := Ground.phase }, { on := 4, ground := Ground.phase }, { on := 5, ground := Ground.phase }, { on := 6, ground := Ground.phase }, { on := 7, ground := Ground.phase }, { on := 8, ground := Ground.phase }, { on := 9, ground := Ground.phase }, { on := 10, ground := Ground.phase }, { on := 11, ground := Ground.phase }, { on := 12, ground := Ground.phase }, { on := 13, ground := Ground.phase }, { on := 14, ground := Ground.phase }, { on := 15, ground := Ground.phase }, { on := 16, ground := Ground.phase }, { on := 17, ground := Ground.phase }, { on := 18, ground := Ground.phase }], guard := none }) rfl (by rfl) ?_
    go_simp
    refine wpLate_done (by kernel_rfl) ?_ _
    go_wp2
    go_end0
    exact ⟨rfl, _, _, HEND.out⟩
end Go.Proofs.Ytmogoaceangblaa
