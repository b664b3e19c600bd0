/- The law DialectRecalls: an effect with a parameter is recalled without one, and a cell without effects asks for nothing; for any dialect, memory and cell. -/
import Derived.Test.YtkpielgdfahanaaGreatLWhole
import Derived.Test.YtkpielgdfahanaaGreatTablesLaw
import Derived.Test.YtkpielgdfahanaaGreatCellsLaw
namespace Go.Proofs.YtkpielgdfahanaaGreat
open Go.RowKit
/-- A slice's cells lie in no block below. -/
def AFrom (n : Nat) (A : Option Addr) : Prop := ∀ b off, A = some ⟨b, off, none⟩ → n ≤ b
theorem OpsAt.set {w : World} {A : Option Addr} {n cap g i m : Nat} {O : List Opn} (h : OpsAt w (.slice A n cap) O) (hA : AFrom m A) (hg : g < m) (x : Value) : OpsAt (w.setCell ⟨g, i, none⟩ x) (.slice A n cap) O := by
  obtain ⟨A', cap', e0, r⟩ := h
  cases e0
  refine ⟨A, cap, rfl, fun k hk => ?_⟩
  obtain ⟨b, off, e, c1, c2, c3⟩ := r k hk
  have hb := hA b off e
  have hh : (w.setCell ⟨g, i, none⟩ x).heap[b]? = w.heap[b]? := heap_setCell_other w ⟨g, i, none⟩ b x (by show b ≠ g; omega)
  have hc : ∀ j, (w.setCell ⟨g, i, none⟩ x).cell? ⟨b, j, none⟩ = w.cell? ⟨b, j, none⟩ := fun j => by unfold World.cell?; rw [hh]
  exact ⟨b, off, e, by rw [hc]; exact c1, by rw [hc]; exact c2, by rw [hc]; exact c3⟩
theorem res_is (M : List Int) (hM : M.length = 26) (d note inst vc va e p : Int) (O : List Opn) (N : List Int) (c : Int) (h1 : resO d note inst vc va e p M = O) (h2 : resM d note inst vc va e p M = N) (h3 : resC d note inst vc va e p M = c) (w : World) :
    Calls Tryz.prog 10 #[.int .i64 d, .agg (memV M), .agg #[.int .i64 note, .int .i64 inst, .int .i64 vc, .int .i64 va, .int .i64 e, .int .i64 p]] w fun x w' => ∃ A cap, x = .returned (.tuple #[.slice A O.length cap, .agg (memV N), .int .i64 c]) ∧ OpsAt w' (.slice A O.length cap) O ∧ BelowW w w' ∧ AFrom w.heap.size A := by
  subst h1 h2 h3
  refine (pres_any M hM d note inst vc va e p w).mono ?_
  rintro x w' h
  obtain ⟨v, h1, h2, h3⟩ := h
  obtain ⟨A, cap, rfl, r⟩ := OpsAt.own h2
  exact ⟨A, cap, h1, ⟨A, cap, rfl, r⟩, h3, fun b off e => (h2.lt b (by rw [e]; rfl)).1⟩
theorem eqz (w : World) : (binOp .eql 28 (.agg (memV zeroM)) (.agg #[.int .i64 0, .int .i64 0, .int .i64 0, .int .i64 0, .int .i64 0, .int .i64 0, .int .i64 0, .int .i64 0, .int .i64 0, .int .i64 0, .int .i64 0, .int .i64 0, .int .i64 0, .int .i64 0, .int .i64 0, .int .i64 0, .int .i64 0, .int .i64 0, .int .i64 0, .int .i64 0, .int .i64 0, .int .i64 0, .int .i64 0, .int .i64 0, .int .i64 0, .int .i64 0])).run Tryz.prog w = .ok (.bool true) w := by
  have := eql28 zeroM zeroM zeroM_len zeroM_len w
  rw [decide_eq_true rfl] at this
  exact this
theorem neq_self (M : List Int) (hM : M.length = 26) (w : World) : (binOp .neq 28 (.agg (memV M)) (.agg (memV M))).run Tryz.prog w = .ok (.bool false) w := by
  have := neq28 M M hM hM w
  rw [decide_eq_true rfl] at this
  exact this
theorem eql_self (M : List Int) (hM : M.length = 26) (w : World) : (binOp .eql 28 (.agg (memV M)) (.agg (memV M))).run Tryz.prog w = .ok (.bool true) w := by
  have := eql28 M M hM hM w
  rw [decide_eq_true rfl] at this
  exact this
/-- The boxes of the law: the memory, the cell. -/
structure Two (w : World) (M : List Int) (cell : Array Value) (gm gc : Nat) (w1 : World) : Prop where
  m : w1.heap[gm]? = some (.cells (memV M) 28 (0, 0))
  c : w1.heap[gc]? = some (.cells cell 23 (0, 0))
  b : BelowW w w1
  le : w.heap.size ≤ gc
theorem Two.next {w : World} {M : List Int} {cell : Array Value} {gm gc : Nat} {w1 w2 : World} (h : Two w M cell gm gc w1) (hb : Below w1.heap.size w1 w2) : Two w M cell gm gc w2 :=
  ⟨(hb.block _ (Array.getElem?_eq_some_iff.1 h.m).1).trans h.m, (hb.block _ (Array.getElem?_eq_some_iff.1 h.c).1).trans h.c, h.b.step hb, h.le⟩
theorem Two.made (w : World) (M : List Int) (cell : Array Value) : Two w M cell w.heap.size (w.heap.size + 1) ((w.alloc (.cells (memV M) 28)).alloc (.cells cell 23)) := by
  refine ⟨((below1 _ _).block _ (by simp)).trans (heap_alloc_new w _), ?_, below2 w _ _, Nat.le_succ _⟩
  have := heap_alloc_new (w.alloc (.cells (memV M) 28)) (.cells cell 23)
  simpa using this
theorem rec_bad {M : List Int} {d note inst vc va e p : Int} (h : resC d note inst vc va e p M ≠ 0) : resO d note inst vc va e p M = [] ∧ resM d note inst vc va e p M = zeroM := by
  have hb : (memB M && validB d note inst vc va e p) = false := by
    cases hb : (memB M && validB d note inst vc va e p) with
    | false => rfl
    | true =>
      exfalso
      rw [Bool.and_eq_true] at hb
      apply h
      have hd := (validB_cell hb.2).1
      have hD : isD d = true := by unfold isD; rw [decide_eq_true hd.1, decide_eq_true hd.2]; rfl
      unfold resC
      rw [if_pos hD, hb.1, hb.2]; rfl
  unfold resO resM
  rw [hb]; exact ⟨rfl, rfl⟩
theorem rec_ok {M : List Int} {d note inst vc va e p : Int} (hm : memB M = true) (hv : validB d note inst vc va e p = true) : resO d note inst vc va e p M = (askX d note e p vc va M).O ∧ resM d note inst vc va e p M = (askX d note e p vc va M).M ∧ resC d note inst vc va e p M = 0 := by
  have hd := (validB_cell hv).1
  have hD : isD d = true := by unfold isD; rw [decide_eq_true hd.1, decide_eq_true hd.2]; rfl
  unfold resO resM resC
  rw [hm, hv, hD]; exact ⟨rfl, rfl, rfl⟩
theorem rec_len {M : List Int} {d note inst vc va e p : Int} (hM : M.length = 26) (hm : memB M = true) (hv : validB d note inst vc va e p = true) : (askX d note e p vc va M).M.length = 26 := (askX_left (memB_ok hM hm) (validB_cell hv).2).1
theorem rec_plain {M : List Int} {d note e p : Int} (he : e = 0) (hd : d ≠ 5) : (askX d note e p 0 0 M).O = [] ∧ (askX d note e p 0 0 M).M = M := by
  subst he
  unfold askX effX colX
  rw [if_neg hd, if_neg (by omega), if_neg (by omega)]
  exact ⟨rfl, rfl⟩
theorem validB_eff {d note inst vc va e p : Int} (h : validB d note inst vc va e p = true) : effB e p = true := by
  unfold validB cellB at h
  simp only [Bool.and_eq_true] at h
  exact h.1.1.1.2.2
theorem rec_p0 {d note inst vc va e p : Int} (h : validB d note inst vc va e p = true) (he : e = 0) : p = 0 := by
  have := (effB_iff e p).1 (validB_eff h)
  omega
theorem lwhole_is (d e : Int) (d1 : 1 ≤ d) (d6 : d ≤ 6) (b : Bool) (h : wholeB d e = b) (w : World) : Calls Tryz.prog 13 #[.int .i64 d, .int .i64 e] w fun x w' => x = .returned (.bool b) ∧ w = w' := by
  subst h; exact lwhole_any d e d1 d6 w
/-- The second Resolve, without the parameter, in the memory that the first one left. -/
theorem rec_again {M : List Int} {d note inst e p : Int} (hM : M.length = 26) (hm : memB M = true) (hv : validB d note inst 0 0 e p = true) (hw : wholeB d e = true) (hp : p ≠ 0) :
    resO d note inst 0 0 e 0 (askX d note e p 0 0 M).M = (askX d note e p 0 0 M).O ∧ resM d note inst 0 0 e 0 (askX d note e p 0 0 M).M = (askX d note e p 0 0 M).M ∧ resC d note inst 0 0 e 0 (askX d note e p 0 0 M).M = 0 := by
  have hd5 : d ≠ 5 := fun h => by rw [h, wholeB_5] at hw; cases hw
  obtain ⟨_, _, _, he1⟩ := wholeB_letter hw
  have hm2 := askX_mem (note := note) (memB_ok hM hm) (validB_cell hv).2 hd5 (by omega : ¬ (0 : Int) < 0)
  have hv2 : validB d note inst 0 0 e 0 = true := by
    have h := hv
    unfold validB cellB at h ⊢
    simp only [Bool.and_eq_true] at h ⊢
    refine ⟨⟨⟨⟨h.1.1.1.1, h.1.1.1.2.1, ?_⟩, h.1.1.2⟩, h.1.2⟩, h.2⟩
    have := (effB_iff e p).1 h.1.1.1.2.2
    exact (effB_iff e 0).2 ⟨this.1, by omega, by omega⟩
  obtain ⟨r1, r2, r3⟩ := rec_ok (note := note) (inst := inst) hm2 hv2
  obtain ⟨a1, a2⟩ := again (note := note) hM hw hp
  exact ⟨r1.trans a1, r2.trans a2, r3⟩
theorem Two.zero {w : World} {M : List Int} {a b c d e f : Value} {gm gc g8 : Nat} {w1 : World} (h : Two w M #[a, b, c, d, e, f] gm gc w1) (_ : gc < g8) (hne : gm ≠ gc) (x : Value) : Two w M #[a, b, c, d, e, x] gm gc (w1.setCell ⟨gc, 5, none⟩ x) :=
  ⟨(heap_setCell_other w1 ⟨gc, 5, none⟩ gm x hne).trans h.m, by rw [heap_setCell_same w1 gc 5 _ 23 x h.c]; rfl, h.b.setCell h.le x, h.le⟩
theorem cell6 {w : World} {g : Nat} {a b c d e f : Value} {t : TypeId} (h : w.heap[g]? = some (.cells #[a, b, c, d, e, f] t (0, 0))) :
    w.cell? ⟨g, 0, none⟩ = some a ∧ w.cell? ⟨g, 1, none⟩ = some b ∧ w.cell? ⟨g, 2, none⟩ = some c ∧ w.cell? ⟨g, 3, none⟩ = some d ∧ w.cell? ⟨g, 4, none⟩ = some e ∧ w.cell? ⟨g, 5, none⟩ = some f := by
  refine ⟨?_, ?_, ?_, ?_, ?_, ?_⟩ <;> (rw [cell_of_row w g _ _ _ _ h]; rfl)
set_option maxHeartbeats 4000000 in
set_option maxRecDepth 100000 in
theorem rec_A (M : List Int) (hM : M.length = 26) (d note inst vc va e p : Int) (hc : resC d note inst 0 0 e p M ≠ 0) (w : World) : Calls Tryz.prog 5 #[.int .i64 d, .agg (memV M), .agg #[.int .i64 note, .int .i64 inst, .int .i64 vc, .int .i64 va, .int .i64 e, .int .i64 p]] w fun x w' => x = .returned (.bool true) ∧ BelowW w w' := by
  have HM := hid hM
  have HT : Hid (Two w M #[.int .i64 note, .int .i64 inst, .int .i64 0, .int .i64 0, .int .i64 e, .int .i64 p] w.heap.size (w.heap.size + 1) ((w.alloc (.cells (memV M) 28)).alloc (.cells #[.int .i64 note, .int .i64 inst, .int .i64 0, .int .i64 0, .int .i64 e, .int .i64 p] 23))) := hid (Two.made w M _)
  have HO := hid (rec_bad hc).1
  have HN := hid (rec_bad hc).2
  obtain ⟨cc, hcc⟩ : ∃ cc, resC d note inst 0 0 e p M = cc := ⟨_, rfl⟩
  have HC := hid hcc
  have HL := hid zeroM_len
  have hcb : (cc != 0) = true := by rw [← hcc]; simpa using hc
  clear hc hcc
  obtain ⟨N, hNz⟩ : ∃ N, N = zeroM := ⟨_, rfl⟩
  rw [← hNz] at HN HL
  have hez := eqz
  rw [← hNz] at hez
  clear hNz
  clear hM
  go_enter Tryz.func5, Tryz.ntmps5
  go_upto_region 2 with (fail)
  generalize (w.alloc (.cells (memV M) 28)).alloc (.cells #[.int .i64 note, .int .i64 inst, .int .i64 0, .int .i64 0, .int .i64 e, .int .i64 p] 23) = w2 at *
  have HNE : Hid (w.heap.size ≠ w.heap.size + 1) := hid (by omega)
  generalize w.heap.size + 1 = gc at *
  obtain ⟨gm, hgm⟩ : ∃ gm, gm = w.heap.size := ⟨_, rfl⟩
  have HT0 : Hid (Two w M #[.int .i64 note, .int .i64 inst, .int .i64 0, .int .i64 0, .int .i64 e, .int .i64 p] gm gc w2) := by rw [hgm]; exact HT
  have HNE0 : Hid (gm ≠ gc) := by rw [hgm]; exact HNE
  rw [← hgm]
  clear HT hgm HNE
  have RM := hid (row_M HT0.out.m)
  obtain ⟨q0, q1, q2, q3, q4, q5⟩ := cell6 HT0.out.c
  go_wp2_with (refine wpList_load_at rfl 28 _ rfl gm 0 rfl (memV M) _ RM.out Tryz.underlying28 rfl (by rw [memV_size HM.out]; exact size28) ?_)
  go_at_call 10
  refine (res_is M HM.out d note inst 0 0 e p ([]) (N) (cc) HO.out HN.out HC.out _).mono ?_
  rintro x w3 ⟨A, cap, rfl, ho, hb, haf⟩
  have HT1 := hid ((HT0.out.next hb).next (below1 w3 (.cells (memV (N)) 28)))
  have HOA := hid (ho.keep (below1 w3 (.cells (memV (N)) 28)))
  have HX8 := hid (heap_alloc_new w3 (.cells (memV (N)) 28))
  have HG8 : Hid (gc < w3.heap.size) := hid (by have := (Array.getElem?_eq_some_iff.1 (HT0.out.next hb).c).1; exact this)
  have HAF : Hid (∃ m, gc < m ∧ AFrom m A) := hid ⟨_, (Array.getElem?_eq_some_iff.1 HT0.out.c).1, haf⟩
  clear ho hb haf q0 q1 q2 q3 q4 q5 RM HT0
  go_upto_region 3 with (refine wpList_store_new rfl 28 _ _ rfl (memV zeroM) (memV (N)) rfl rfl (by rw [memV_size HL.out]; exact size28) (by rw [memV_size HL.out]; rfl) (memV_ones _) ?_)
  generalize w3.alloc (.cells (memV (N)) 28) = w4 at *
  generalize w3.heap.size = g8 at *
  have RM := hid (row_M HT1.out.m)
  have RX := hid (row_M HX8.out)
  have BX := hid HT1.out.b
  obtain ⟨q0, q1, q2, q3, q4, q5⟩ := cell6 HT1.out.c
  go_wp2_with (first | (refine wpList_load_g (by rfl) 28 _ rfl g8 0 rfl (memV N) _ RX.out Tryz.underlying28 rfl (by rw [memV_size HL.out]; exact size28) ?_) | (go_at_call 9; refine (awake_any _).mono ?_; rintro x w9 ⟨rfl, hb9⟩; have BF := hid (BelowW.step BX.out hb9); clear hb9))
  go_ret
  exact ⟨rfl, BF⟩
set_option maxHeartbeats 4000000 in
set_option maxRecDepth 100000 in
theorem rec_B (M : List Int) (hM : M.length = 26) (d note inst vc va e p : Int) (hm : memB M = true) (hv : validB d note inst 0 0 e p = true) (he : e = 0) (hd : d ≠ 5) (w : World) : Calls Tryz.prog 5 #[.int .i64 d, .agg (memV M), .agg #[.int .i64 note, .int .i64 inst, .int .i64 vc, .int .i64 va, .int .i64 e, .int .i64 p]] w fun x w' => x = .returned (.bool true) ∧ BelowW w w' := by
  have HM := hid hM
  have HT : Hid (Two w M #[.int .i64 note, .int .i64 inst, .int .i64 0, .int .i64 0, .int .i64 e, .int .i64 p] w.heap.size (w.heap.size + 1) ((w.alloc (.cells (memV M) 28)).alloc (.cells #[.int .i64 note, .int .i64 inst, .int .i64 0, .int .i64 0, .int .i64 e, .int .i64 p] 23))) := hid (Two.made w M _)
  obtain ⟨hx1, hx2⟩ := rec_plain (note := note) (p := p) (M := M) he hd
  have HO : Hid (resO d note inst 0 0 e p M = []) := hid (by rw [(rec_ok hm hv).1, hx1])
  have HN : Hid (resM d note inst 0 0 e p M = M) := hid (by rw [(rec_ok hm hv).2.1, hx2])
  have HC := hid (rec_ok hm hv).2.2
  have HL := HM
  have hp : p = 0 := rec_p0 hv he
  have te : (e == 0) = true := beq_true he
  have tp : (p == 0) = true := beq_true hp
  have td : (d != 5) = true := by simpa using hd
  clear hm hv he hd hp hx1 hx2
  clear hM
  go_enter Tryz.func5, Tryz.ntmps5
  go_upto_region 2 with (fail)
  generalize (w.alloc (.cells (memV M) 28)).alloc (.cells #[.int .i64 note, .int .i64 inst, .int .i64 0, .int .i64 0, .int .i64 e, .int .i64 p] 23) = w2 at *
  have HNE : Hid (w.heap.size ≠ w.heap.size + 1) := hid (by omega)
  generalize w.heap.size + 1 = gc at *
  obtain ⟨gm, hgm⟩ : ∃ gm, gm = w.heap.size := ⟨_, rfl⟩
  have HT0 : Hid (Two w M #[.int .i64 note, .int .i64 inst, .int .i64 0, .int .i64 0, .int .i64 e, .int .i64 p] gm gc w2) := by rw [hgm]; exact HT
  have HNE0 : Hid (gm ≠ gc) := by rw [hgm]; exact HNE
  rw [← hgm]
  clear HT hgm HNE
  have RM := hid (row_M HT0.out.m)
  obtain ⟨q0, q1, q2, q3, q4, q5⟩ := cell6 HT0.out.c
  go_wp2_with (refine wpList_load_at rfl 28 _ rfl gm 0 rfl (memV M) _ RM.out Tryz.underlying28 rfl (by rw [memV_size HM.out]; exact size28) ?_)
  go_at_call 10
  refine (res_is M HM.out d note inst 0 0 e p ([]) (M) (0) HO.out HN.out HC.out _).mono ?_
  rintro x w3 ⟨A, cap, rfl, ho, hb, haf⟩
  have HT1 := hid ((HT0.out.next hb).next (below1 w3 (.cells (memV (M)) 28)))
  have HOA := hid (ho.keep (below1 w3 (.cells (memV (M)) 28)))
  have HX8 := hid (heap_alloc_new w3 (.cells (memV (M)) 28))
  have HG8 : Hid (gc < w3.heap.size) := hid (by have := (Array.getElem?_eq_some_iff.1 (HT0.out.next hb).c).1; exact this)
  have HAF : Hid (∃ m, gc < m ∧ AFrom m A) := hid ⟨_, (Array.getElem?_eq_some_iff.1 HT0.out.c).1, haf⟩
  clear ho hb haf q0 q1 q2 q3 q4 q5 RM HT0
  go_upto_region 3 with (refine wpList_store_new rfl 28 _ _ rfl (memV zeroM) (memV (M)) rfl rfl (by rw [memV_size HL.out]; exact size28) (by rw [memV_size HL.out]; rfl) (memV_ones _) ?_)
  generalize w3.alloc (.cells (memV (M)) 28) = w4 at *
  generalize w3.heap.size = g8 at *
  have RM := hid (row_M HT1.out.m)
  have RX := hid (row_M HX8.out)
  have BX := hid HT1.out.b
  obtain ⟨q0, q1, q2, q3, q4, q5⟩ := cell6 HT1.out.c
  have hnn := neq_self M HM.out
  go_wp2_with (first | (refine wpList_load_g (by rfl) 28 _ rfl g8 0 rfl (memV M) _ RX.out Tryz.underlying28 rfl (by rw [memV_size HL.out]; exact size28) ?_) | (refine wpList_load_g (by rfl) 28 _ rfl gm 0 rfl (memV M) _ RM.out Tryz.underlying28 rfl (by rw [memV_size HM.out]; exact size28) ?_) | (go_at_call 9; refine (awake_any _).mono ?_; rintro x w9 ⟨rfl, hb9⟩; have BF := hid (BelowW.step BX.out hb9); clear hb9))
  go_ret
  exact ⟨rfl, BF⟩
set_option maxHeartbeats 4000000 in
set_option maxRecDepth 100000 in
theorem rec_B5 (M : List Int) (hM : M.length = 26) (d note inst vc va e p : Int) (hm : memB M = true) (hv : validB d note inst 0 0 e p = true) (he : e = 0) (hd : d = 5) (w : World) : Calls Tryz.prog 5 #[.int .i64 d, .agg (memV M), .agg #[.int .i64 note, .int .i64 inst, .int .i64 vc, .int .i64 va, .int .i64 e, .int .i64 p]] w fun x w' => x = .returned (.bool true) ∧ BelowW w w' := by
  have HM := hid hM
  have HT : Hid (Two w M #[.int .i64 note, .int .i64 inst, .int .i64 0, .int .i64 0, .int .i64 e, .int .i64 p] w.heap.size (w.heap.size + 1) ((w.alloc (.cells (memV M) 28)).alloc (.cells #[.int .i64 note, .int .i64 inst, .int .i64 0, .int .i64 0, .int .i64 e, .int .i64 p] 23))) := hid (Two.made w M _)
  have HO := hid (rec_ok hm hv).1
  have HN := hid (rec_ok hm hv).2.1
  have HC := hid (rec_ok hm hv).2.2
  have HL := hid (rec_len hM hm hv)
  have hp : p = 0 := rec_p0 hv he
  have te : (e == 0) = true := beq_true he
  have tp : (p == 0) = true := beq_true hp
  have td : (d != 5) = false := by simpa using hd
  clear hm hv he hd hp
  clear hM
  go_enter Tryz.func5, Tryz.ntmps5
  go_upto_region 2 with (fail)
  generalize (w.alloc (.cells (memV M) 28)).alloc (.cells #[.int .i64 note, .int .i64 inst, .int .i64 0, .int .i64 0, .int .i64 e, .int .i64 p] 23) = w2 at *
  have HNE : Hid (w.heap.size ≠ w.heap.size + 1) := hid (by omega)
  generalize w.heap.size + 1 = gc at *
  obtain ⟨gm, hgm⟩ : ∃ gm, gm = w.heap.size := ⟨_, rfl⟩
  have HT0 : Hid (Two w M #[.int .i64 note, .int .i64 inst, .int .i64 0, .int .i64 0, .int .i64 e, .int .i64 p] gm gc w2) := by rw [hgm]; exact HT
  have HNE0 : Hid (gm ≠ gc) := by rw [hgm]; exact HNE
  rw [← hgm]
  clear HT hgm HNE
  have RM := hid (row_M HT0.out.m)
  obtain ⟨q0, q1, q2, q3, q4, q5⟩ := cell6 HT0.out.c
  go_wp2_with (refine wpList_load_at rfl 28 _ rfl gm 0 rfl (memV M) _ RM.out Tryz.underlying28 rfl (by rw [memV_size HM.out]; exact size28) ?_)
  go_at_call 10
  refine (res_is M HM.out d note inst 0 0 e p ((askX d note e p 0 0 M).O) ((askX d note e p 0 0 M).M) (0) HO.out HN.out HC.out _).mono ?_
  rintro x w3 ⟨A, cap, rfl, ho, hb, haf⟩
  have HT1 := hid ((HT0.out.next hb).next (below1 w3 (.cells (memV ((askX d note e p 0 0 M).M)) 28)))
  have HOA := hid (ho.keep (below1 w3 (.cells (memV ((askX d note e p 0 0 M).M)) 28)))
  have HX8 := hid (heap_alloc_new w3 (.cells (memV ((askX d note e p 0 0 M).M)) 28))
  have HG8 : Hid (gc < w3.heap.size) := hid (by have := (Array.getElem?_eq_some_iff.1 (HT0.out.next hb).c).1; exact this)
  have HAF : Hid (∃ m, gc < m ∧ AFrom m A) := hid ⟨_, (Array.getElem?_eq_some_iff.1 HT0.out.c).1, haf⟩
  clear ho hb haf q0 q1 q2 q3 q4 q5 RM HT0
  go_upto_region 3 with (refine wpList_store_new rfl 28 _ _ rfl (memV zeroM) (memV ((askX d note e p 0 0 M).M)) rfl rfl (by rw [memV_size HL.out]; exact size28) (by rw [memV_size HL.out]; rfl) (memV_ones _) ?_)
  generalize w3.alloc (.cells (memV ((askX d note e p 0 0 M).M)) 28) = w4 at *
  generalize w3.heap.size = g8 at *
  have RM := hid (row_M HT1.out.m)
  have RX := hid (row_M HX8.out)
  have BX := hid HT1.out.b
  obtain ⟨q0, q1, q2, q3, q4, q5⟩ := cell6 HT1.out.c
  go_wp2_with (go_at_call 9; refine (awake_any _).mono ?_; rintro x w9 ⟨rfl, hb9⟩; have BF := hid (BelowW.step BX.out hb9); clear hb9)
  go_ret
  exact ⟨rfl, BF⟩
set_option maxHeartbeats 4000000 in
set_option maxRecDepth 100000 in
theorem rec_C (M : List Int) (hM : M.length = 26) (d note inst vc va e p : Int) (hm : memB M = true) (hv : validB d note inst 0 0 e p = true) (he : e ≠ 0) (hp : p = 0) (w : World) : Calls Tryz.prog 5 #[.int .i64 d, .agg (memV M), .agg #[.int .i64 note, .int .i64 inst, .int .i64 vc, .int .i64 va, .int .i64 e, .int .i64 p]] w fun x w' => x = .returned (.bool true) ∧ BelowW w w' := by
  have HM := hid hM
  have HT : Hid (Two w M #[.int .i64 note, .int .i64 inst, .int .i64 0, .int .i64 0, .int .i64 e, .int .i64 p] w.heap.size (w.heap.size + 1) ((w.alloc (.cells (memV M) 28)).alloc (.cells #[.int .i64 note, .int .i64 inst, .int .i64 0, .int .i64 0, .int .i64 e, .int .i64 p] 23))) := hid (Two.made w M _)
  have HO := hid (rec_ok hm hv).1
  have HN := hid (rec_ok hm hv).2.1
  have HC := hid (rec_ok hm hv).2.2
  have HL := hid (rec_len hM hm hv)
  have te : (e == 0) = false := beq_false he
  have tp : (p == 0) = true := beq_true hp
  clear hm hv he hp
  clear hM
  go_enter Tryz.func5, Tryz.ntmps5
  go_upto_region 2 with (fail)
  generalize (w.alloc (.cells (memV M) 28)).alloc (.cells #[.int .i64 note, .int .i64 inst, .int .i64 0, .int .i64 0, .int .i64 e, .int .i64 p] 23) = w2 at *
  have HNE : Hid (w.heap.size ≠ w.heap.size + 1) := hid (by omega)
  generalize w.heap.size + 1 = gc at *
  obtain ⟨gm, hgm⟩ : ∃ gm, gm = w.heap.size := ⟨_, rfl⟩
  have HT0 : Hid (Two w M #[.int .i64 note, .int .i64 inst, .int .i64 0, .int .i64 0, .int .i64 e, .int .i64 p] gm gc w2) := by rw [hgm]; exact HT
  have HNE0 : Hid (gm ≠ gc) := by rw [hgm]; exact HNE
  rw [← hgm]
  clear HT hgm HNE
  have RM := hid (row_M HT0.out.m)
  obtain ⟨q0, q1, q2, q3, q4, q5⟩ := cell6 HT0.out.c
  go_wp2_with (refine wpList_load_at rfl 28 _ rfl gm 0 rfl (memV M) _ RM.out Tryz.underlying28 rfl (by rw [memV_size HM.out]; exact size28) ?_)
  go_at_call 10
  refine (res_is M HM.out d note inst 0 0 e p ((askX d note e p 0 0 M).O) ((askX d note e p 0 0 M).M) (0) HO.out HN.out HC.out _).mono ?_
  rintro x w3 ⟨A, cap, rfl, ho, hb, haf⟩
  have HT1 := hid ((HT0.out.next hb).next (below1 w3 (.cells (memV ((askX d note e p 0 0 M).M)) 28)))
  have HOA := hid (ho.keep (below1 w3 (.cells (memV ((askX d note e p 0 0 M).M)) 28)))
  have HX8 := hid (heap_alloc_new w3 (.cells (memV ((askX d note e p 0 0 M).M)) 28))
  have HG8 : Hid (gc < w3.heap.size) := hid (by have := (Array.getElem?_eq_some_iff.1 (HT0.out.next hb).c).1; exact this)
  have HAF : Hid (∃ m, gc < m ∧ AFrom m A) := hid ⟨_, (Array.getElem?_eq_some_iff.1 HT0.out.c).1, haf⟩
  clear ho hb haf q0 q1 q2 q3 q4 q5 RM HT0
  go_upto_region 3 with (refine wpList_store_new rfl 28 _ _ rfl (memV zeroM) (memV ((askX d note e p 0 0 M).M)) rfl rfl (by rw [memV_size HL.out]; exact size28) (by rw [memV_size HL.out]; rfl) (memV_ones _) ?_)
  generalize w3.alloc (.cells (memV ((askX d note e p 0 0 M).M)) 28) = w4 at *
  generalize w3.heap.size = g8 at *
  have RM := hid (row_M HT1.out.m)
  have RX := hid (row_M HX8.out)
  have BX := hid HT1.out.b
  obtain ⟨q0, q1, q2, q3, q4, q5⟩ := cell6 HT1.out.c
  go_wp2_with (go_at_call 9; refine (awake_any _).mono ?_; rintro x w9 ⟨rfl, hb9⟩; have BF := hid (BelowW.step BX.out hb9); clear hb9)
  go_ret
  exact ⟨rfl, BF⟩
set_option maxHeartbeats 4000000 in
set_option maxRecDepth 100000 in
theorem rec_D (M : List Int) (hM : M.length = 26) (d note inst vc va e p : Int) (hm : memB M = true) (hv : validB d note inst 0 0 e p = true) (he : e ≠ 0) (hp : p ≠ 0) (hw : wholeB d e = false) (w : World) : Calls Tryz.prog 5 #[.int .i64 d, .agg (memV M), .agg #[.int .i64 note, .int .i64 inst, .int .i64 vc, .int .i64 va, .int .i64 e, .int .i64 p]] w fun x w' => x = .returned (.bool true) ∧ BelowW w w' := by
  have HM := hid hM
  have HT : Hid (Two w M #[.int .i64 note, .int .i64 inst, .int .i64 0, .int .i64 0, .int .i64 e, .int .i64 p] w.heap.size (w.heap.size + 1) ((w.alloc (.cells (memV M) 28)).alloc (.cells #[.int .i64 note, .int .i64 inst, .int .i64 0, .int .i64 0, .int .i64 e, .int .i64 p] 23))) := hid (Two.made w M _)
  have HO := hid (rec_ok hm hv).1
  have HN := hid (rec_ok hm hv).2.1
  have HC := hid (rec_ok hm hv).2.2
  have HL := hid (rec_len hM hm hv)
  have te : (e == 0) = false := beq_false he
  have tp : (p == 0) = false := beq_false hp
  have HD := hid (validB_cell hv).1
  have HW := hid hw
  clear hm hv he hp hw
  clear hM
  go_enter Tryz.func5, Tryz.ntmps5
  go_upto_region 2 with (fail)
  generalize (w.alloc (.cells (memV M) 28)).alloc (.cells #[.int .i64 note, .int .i64 inst, .int .i64 0, .int .i64 0, .int .i64 e, .int .i64 p] 23) = w2 at *
  have HNE : Hid (w.heap.size ≠ w.heap.size + 1) := hid (by omega)
  generalize w.heap.size + 1 = gc at *
  obtain ⟨gm, hgm⟩ : ∃ gm, gm = w.heap.size := ⟨_, rfl⟩
  have HT0 : Hid (Two w M #[.int .i64 note, .int .i64 inst, .int .i64 0, .int .i64 0, .int .i64 e, .int .i64 p] gm gc w2) := by rw [hgm]; exact HT
  have HNE0 : Hid (gm ≠ gc) := by rw [hgm]; exact HNE
  rw [← hgm]
  clear HT hgm HNE
  have RM := hid (row_M HT0.out.m)
  obtain ⟨q0, q1, q2, q3, q4, q5⟩ := cell6 HT0.out.c
  go_wp2_with (refine wpList_load_at rfl 28 _ rfl gm 0 rfl (memV M) _ RM.out Tryz.underlying28 rfl (by rw [memV_size HM.out]; exact size28) ?_)
  go_at_call 10
  refine (res_is M HM.out d note inst 0 0 e p ((askX d note e p 0 0 M).O) ((askX d note e p 0 0 M).M) (0) HO.out HN.out HC.out _).mono ?_
  rintro x w3 ⟨A, cap, rfl, ho, hb, haf⟩
  have HT1 := hid ((HT0.out.next hb).next (below1 w3 (.cells (memV ((askX d note e p 0 0 M).M)) 28)))
  have HOA := hid (ho.keep (below1 w3 (.cells (memV ((askX d note e p 0 0 M).M)) 28)))
  have HX8 := hid (heap_alloc_new w3 (.cells (memV ((askX d note e p 0 0 M).M)) 28))
  have HG8 : Hid (gc < w3.heap.size) := hid (by have := (Array.getElem?_eq_some_iff.1 (HT0.out.next hb).c).1; exact this)
  have HAF : Hid (∃ m, gc < m ∧ AFrom m A) := hid ⟨_, (Array.getElem?_eq_some_iff.1 HT0.out.c).1, haf⟩
  clear ho hb haf q0 q1 q2 q3 q4 q5 RM HT0
  go_upto_region 3 with (refine wpList_store_new rfl 28 _ _ rfl (memV zeroM) (memV ((askX d note e p 0 0 M).M)) rfl rfl (by rw [memV_size HL.out]; exact size28) (by rw [memV_size HL.out]; rfl) (memV_ones _) ?_)
  generalize w3.alloc (.cells (memV ((askX d note e p 0 0 M).M)) 28) = w4 at *
  generalize w3.heap.size = g8 at *
  have RM := hid (row_M HT1.out.m)
  have RX := hid (row_M HX8.out)
  have BX := hid HT1.out.b
  obtain ⟨q0, q1, q2, q3, q4, q5⟩ := cell6 HT1.out.c
  go_wp2_with (first | (go_at_call 13; refine (lwhole_is d e HD.out.1 HD.out.2 _ HW.out _).mono ?_; rintro x w5 ⟨rfl, rfl⟩) | (go_at_call 9; refine (awake_any _).mono ?_; rintro x w9 ⟨rfl, hb9⟩; have BF := hid (BelowW.step BX.out hb9); clear hb9))
  go_ret
  exact ⟨rfl, BF⟩
set_option maxHeartbeats 4000000 in
set_option maxRecDepth 100000 in
theorem rec_E (M : List Int) (hM : M.length = 26) (d note inst vc va e p : Int) (hm : memB M = true) (hv : validB d note inst 0 0 e p = true) (he : e ≠ 0) (hp : p ≠ 0) (hw : wholeB d e = true) (w : World) : Calls Tryz.prog 5 #[.int .i64 d, .agg (memV M), .agg #[.int .i64 note, .int .i64 inst, .int .i64 vc, .int .i64 va, .int .i64 e, .int .i64 p]] w fun x w' => x = .returned (.bool true) ∧ BelowW w w' := by
  have HM := hid hM
  have HT : Hid (Two w M #[.int .i64 note, .int .i64 inst, .int .i64 0, .int .i64 0, .int .i64 e, .int .i64 p] w.heap.size (w.heap.size + 1) ((w.alloc (.cells (memV M) 28)).alloc (.cells #[.int .i64 note, .int .i64 inst, .int .i64 0, .int .i64 0, .int .i64 e, .int .i64 p] 23))) := hid (Two.made w M _)
  have HO := hid (rec_ok hm hv).1
  have HN := hid (rec_ok hm hv).2.1
  have HC := hid (rec_ok hm hv).2.2
  have HL := hid (rec_len hM hm hv)
  have te : (e == 0) = false := beq_false he
  have tp : (p == 0) = false := beq_false hp
  have HD := hid (validB_cell hv).1
  have HW := hid hw
  have HA := hid (rec_again hM hm hv hw hp)
  have HO3 : Hid ((askX d note e p 0 0 M).O.length ≤ 1000) := hid (by have := resO_len d note inst 0 0 e p hM; rw [HO.out] at this; omega)
  obtain ⟨N, hN⟩ : ∃ N, N = (askX d note e p 0 0 M).M := ⟨_, rfl⟩
  obtain ⟨O, hO⟩ : ∃ O, O = (askX d note e p 0 0 M).O := ⟨_, rfl⟩
  rw [← hN, ← hO] at HA
  rw [← hN] at HN HL
  rw [← hO] at HO HO3
  clear hm hv he hp hw hN hO
  clear hM
  go_enter Tryz.func5, Tryz.ntmps5
  go_upto_region 2 with (fail)
  generalize (w.alloc (.cells (memV M) 28)).alloc (.cells #[.int .i64 note, .int .i64 inst, .int .i64 0, .int .i64 0, .int .i64 e, .int .i64 p] 23) = w2 at *
  have HNE : Hid (w.heap.size ≠ w.heap.size + 1) := hid (by omega)
  generalize w.heap.size + 1 = gc at *
  obtain ⟨gm, hgm⟩ : ∃ gm, gm = w.heap.size := ⟨_, rfl⟩
  have HT0 : Hid (Two w M #[.int .i64 note, .int .i64 inst, .int .i64 0, .int .i64 0, .int .i64 e, .int .i64 p] gm gc w2) := by rw [hgm]; exact HT
  have HNE0 : Hid (gm ≠ gc) := by rw [hgm]; exact HNE
  rw [← hgm]
  clear HT hgm HNE
  have RM := hid (row_M HT0.out.m)
  obtain ⟨q0, q1, q2, q3, q4, q5⟩ := cell6 HT0.out.c
  go_wp2_with (refine wpList_load_at rfl 28 _ rfl gm 0 rfl (memV M) _ RM.out Tryz.underlying28 rfl (by rw [memV_size HM.out]; exact size28) ?_)
  go_at_call 10
  refine (res_is M HM.out d note inst 0 0 e p (O) (N) (0) HO.out HN.out HC.out _).mono ?_
  rintro x w3 ⟨A, cap, rfl, ho, hb, haf⟩
  have HT1 := hid ((HT0.out.next hb).next (below1 w3 (.cells (memV (N)) 28)))
  have HOA := hid (ho.keep (below1 w3 (.cells (memV (N)) 28)))
  have HX8 := hid (heap_alloc_new w3 (.cells (memV (N)) 28))
  have HG8 : Hid (gc < w3.heap.size) := hid (by have := (Array.getElem?_eq_some_iff.1 (HT0.out.next hb).c).1; exact this)
  have HAF : Hid (∃ m, gc < m ∧ AFrom m A) := hid ⟨_, (Array.getElem?_eq_some_iff.1 HT0.out.c).1, haf⟩
  clear ho hb haf q0 q1 q2 q3 q4 q5 RM HT0
  go_upto_region 3 with (refine wpList_store_new rfl 28 _ _ rfl (memV zeroM) (memV (N)) rfl rfl (by rw [memV_size HL.out]; exact size28) (by rw [memV_size HL.out]; rfl) (memV_ones _) ?_)
  generalize w3.alloc (.cells (memV (N)) 28) = w4 at *
  generalize w3.heap.size = g8 at *
  have RM := hid (row_M HT1.out.m)
  have RX := hid (row_M HX8.out)
  have BX := hid HT1.out.b
  obtain ⟨q0, q1, q2, q3, q4, q5⟩ := cell6 HT1.out.c
  clear RM
  have hfz : w4.frozen? ⟨gc, 5, none⟩ = false := frozen_of_row w4 gc 5 _ 23 HT1.out.c
  go_upto_region 9 with (first | (go_at_call 13; refine (lwhole_is d e HD.out.1 HD.out.2 _ HW.out _).mono ?_; rintro x w5 ⟨rfl, rfl⟩) | fail)
  go_upto_region 10 with (fail)
  have HT2 := hid (HT1.out.zero HG8.out HNE0.out (.int .i64 0))
  have HX9 : Hid ((w4.setCell ⟨gc, 5, none⟩ (.int .i64 0)).heap[g8]? = some (.cells (memV N) 28 (0, 0))) := hid ((heap_setCell_other w4 ⟨gc, 5, none⟩ g8 _ (by show g8 ≠ gc; have := HG8.out; omega)).trans HX8.out)
  obtain ⟨am, ha1, ha2⟩ := HAF.out
  have HOB := hid (HOA.out.set ha2 ha1 (.int .i64 0) (i := 5))
  clear HT1 HX8 RX BX q0 q1 q2 q3 q4 q5 HOA HAF ha1 ha2
  generalize w4.setCell ⟨gc, 5, none⟩ (.int .i64 0) = w5 at *
  have RX := hid (row_M HX9.out)
  obtain ⟨q0, q1, q2, q3, q4, q5⟩ := cell6 HT2.out.c
  go_wp2_with (refine wpList_load_at rfl 28 _ rfl g8 0 rfl (memV N) _ RX.out Tryz.underlying28 rfl (by rw [memV_size HL.out]; exact size28) ?_)
  go_at_call 10
  refine (res_is N HL.out d note inst 0 0 e 0 (O) (N) (0) HA.out.1 HA.out.2.1 HA.out.2.2 _).mono ?_
  rintro x w6 ⟨A2, cap2, rfl, ho, hb, haf⟩
  have BX := hid ((HT2.out.next hb).next (below1 w6 (.cells (memV (N)) 28))).b
  have HO1 := hid ((HOB.out.keep hb).keep (below1 w6 (.cells (memV (N)) 28)))
  have HO2 := hid (ho.keep (below1 w6 (.cells (memV (N)) 28)))
  have HXA := hid (heap_alloc_new w6 (.cells (memV (N)) 28))
  have HXB : Hid ((w6.alloc (.cells (memV N) 28)).heap[g8]? = some (.cells (memV N) 28 (0, 0))) := hid (by
    have l := (Array.getElem?_eq_some_iff.1 HX9.out).1
    have l2 := hb.size
    rw [(below1 w6 (.cells (memV N) 28)).block _ (by omega), hb.block _ l]; exact HX9.out)
  clear ho hb haf q0 q1 q2 q3 q4 q5 RX HT2 HOB HX9
  go_upto_region 11 with (refine wpList_store_new rfl 28 _ _ rfl (memV zeroM) (memV (N)) rfl rfl (by rw [memV_size HL.out]; exact size28) (by rw [memV_size HL.out]; rfl) (memV_ones _) ?_)
  generalize w6.alloc (.cells (memV (N)) 28) = w7 at *
  generalize w6.heap.size = gz at *
  have RX := hid (row_M HXB.out)
  have RZ := hid (row_M HXA.out)
  have S1 : Hid (Calls Tryz.prog 12 #[.slice A O.length cap, .slice A2 O.length cap2] w7 fun e w' => e = .returned (.bool true) ∧ ∃ m, w' = w7.drewN m) := hid (by have := same_any _ _ _ _ w7 HO1.out HO2.out HO3.out; rw [decide_eq_true rfl] at this; exact this)
  have hez := eql_self N HL.out
  go_wp2_with (first | (refine wpList_load_g (by rfl) 28 _ rfl g8 0 rfl (memV N) _ RX.out Tryz.underlying28 rfl (by rw [memV_size HL.out]; exact size28) ?_) | (refine wpList_load_g (by rfl) 28 _ rfl gz 0 rfl (memV N) _ RZ.out Tryz.underlying28 rfl (by rw [memV_size HL.out]; exact size28) ?_) | (go_at_call 12; refine S1.out.mono ?_; rintro x w8 ⟨rfl, m, hm⟩; replace RX := hid (show RowAt w8 g8 0 (memV N).toList by rw [hm]; exact RX.out); replace RZ := hid (show RowAt w8 gz 0 (memV N).toList by rw [hm]; exact RZ.out); replace BX : Hid (BelowW w w8) := hid (by rw [hm]; exact below_drewN BX.out m); clear hm HO1 HO2 HXA HXB S1) | (go_at_call 9; refine (awake_any _).mono ?_; rintro x w9 ⟨rfl, hb9⟩; have BF := hid (BelowW.step BX.out hb9); clear hb9))
  go_ret
  exact ⟨rfl, BF⟩
theorem recalls_law (M : List Int) (hM : M.length = 26) (d note inst vc va e p : Int) (w : World) : Calls Tryz.prog 5 #[.int .i64 d, .agg (memV M), .agg #[.int .i64 note, .int .i64 inst, .int .i64 vc, .int .i64 va, .int .i64 e, .int .i64 p]] w fun x w' => x = .returned (.bool true) ∧ BelowW w w' := by
  by_cases hc : resC d note inst 0 0 e p M = 0
  · have hb : memB M = true ∧ validB d note inst 0 0 e p = true := by
      unfold resC at hc
      split at hc
      · split at hc
        · rename_i h; exact Bool.and_eq_true_iff.1 h
        · cases hc
      · cases hc
    obtain ⟨hm, hv⟩ := hb
    by_cases he : e = 0
    · by_cases hd : d = 5
      · exact rec_B5 M hM d note inst vc va e p hm hv he hd w
      · exact rec_B M hM d note inst vc va e p hm hv he hd w
    · by_cases hp : p = 0
      · exact rec_C M hM d note inst vc va e p hm hv he hp w
      · cases hw : wholeB d e with
        | false => exact rec_D M hM d note inst vc va e p hm hv he hp hw w
        | true => exact rec_E M hM d note inst vc va e p hm hv he hp hw w
  · exact rec_A M hM d note inst vc va e p hc w
theorem cells28 : Tryz.prog.cellsOf 28 = 26 := by kernel_rfl
theorem cells26 : Tryz.prog.cellsOf 26 = 24 := by kernel_rfl
open Go.ChangeShapes Go.WideShapes Go.ChangeAt in
set_option maxRecDepth 100000 in
theorem open_mem {H : Type} {enc : TypeId × Value → H} (W : World) (base : Nat) (v : Value) (d : DataW H) (p : List MemPlace)
    (ho : Value.okWide Tryz.prog W .any base 28 v) (h : DataW.Trod enc Tryz.prog W 0 (fun _ => true) true 28 v d p) :
    ∃ M : List Int, M.length = 26 ∧ v = .agg (memV M) := by
  obtain ⟨ca, rfl, hsz⟩ := okWide_struct Tryz.underlying28 ho
  rw [cells28] at hsz
  obtain ⟨fuel, hf⟩ := h
  obtain ⟨xs, m, _, _, _, hl, hx⟩ := DataW.trod_struct Tryz.underlying28 hf
  have h0 := hx 0 _ rfl
  have hi : 0 < xs.length := by rw [hl]; decide
  rw [List.getElem?_eq_getElem hi] at h0
  obtain ⟨n1, e1, _⟩ := field_int Tryz.underlying28 hf 1 3 24 rfl Tryz.underlying3 cells3
  obtain ⟨n2, e2, _⟩ := field_int Tryz.underlying28 hf 2 3 25 rfl Tryz.underlying3 cells3
  have hall : ∀ i : Nat, ∃ z : Int, i < 26 → ca[i]? = some (.int .i64 z) := by
    intro i
    rcases Nat.lt_or_ge i 24 with h24 | h24
    · obtain ⟨z, hz, _⟩ := elem_int Tryz.underlying26 h0 i h24 Tryz.underlying3 cells3
      refine ⟨z, fun _ => ?_⟩
      have e : Tryz.prog.cellsOf 26 = 24 := cells26
      simp only [Value.cells] at hz
      rw [List.getElem?_take] at hz
      simpa [e, h24] using hz
    · by_cases h1 : i = 24
      · subst h1; exact ⟨n1, fun _ => by simpa [Value.cells] using e1⟩
      · exact ⟨n2, fun hi => by
          have : i = 25 := by omega
          subst this; simpa [Value.cells] using e2⟩
  have hz : ∃ z : Nat → Int, ∀ i, i < 26 → ca[i]? = some (.int .i64 (z i)) := ⟨fun i => (hall i).choose, fun i hi => (hall i).choose_spec hi⟩
  obtain ⟨z, hz⟩ := hz
  refine ⟨(List.range 26).map z, by simp, ?_⟩
  congr 1
  apply Array.ext_getElem?
  intro i
  rcases Nat.lt_or_ge i 26 with h | h
  · rw [hz i h]
    simp [memV, List.getElem?_range h]
  · rw [Array.getElem?_eq_none (by omega)]
    simp [memV, h]
open Go.ChangeShapes Go.WideShapes Go.ChangeAt in
theorem DialectRecalls_opened {H : Type} {enc : TypeId × Value → H} (W : World) (base : Nat) (v0 v1 v2 : Value) {d0 d1 d2 : DataW H} {p0 p1 p2 : List MemPlace}
    (o0 : Value.okWide Tryz.prog W .any base 3 v0) (o1 : Value.okWide Tryz.prog W .any base 28 v1) (o2 : Value.okWide Tryz.prog W .any base 23 v2) (h0 : DataW.Trod enc Tryz.prog W 0 (fun _ => true) true 3 v0 d0 p0) (h1 : DataW.Trod enc Tryz.prog W 0 (fun _ => true) true 28 v1 d1 p1) (h2 : DataW.Trod enc Tryz.prog W 0 (fun _ => true) true 23 v2 d2 p2) :
    Calls Tryz.prog 5 #[v0, v1, v2] W fun e w' => e = .returned (.bool true) ∧ Below W.heap.size W w' := by
  obtain ⟨d, rfl, _⟩ := open_int Tryz.underlying3 o0 h0
  obtain ⟨M, hM, rfl⟩ := open_mem W base v1 d1 p1 o1 h1
  obtain ⟨note, inst, vc, va, e, p, rfl⟩ := open_cell W base v2 d2 p2 o2 h2
  exact recalls_law M hM d note inst vc va e p W
end Go.Proofs.YtkpielgdfahanaaGreat
