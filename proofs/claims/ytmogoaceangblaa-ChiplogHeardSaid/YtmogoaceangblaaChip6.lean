/- The tone chip: values in steps, one after another. -/
import Derived.Test.YtmogoaceangblaaChip5
import Derived.Laws.OwnMore
namespace Go.Proofs.Ytmogoaceangblaa
open Go.RowKit

theorem OkT.stN {U : List Int} (h : OkT U) : OkT (stN U) := by
  have h1 := h.cnt 20 (Or.inr (Or.inl rfl))
  have h6 := h.regs 6 (by omega)
  have h2 := cnt_range (U.getD 20 0) (2 * max 1 (U.getD 6 0 % 32)) h1.1 (by omega)
  unfold Ytmogoaceangblaa.stN
  split
  · exact (h.set _ _ (fun h => by omega) (fun _ => h2) (fun h => by omega)).set _ _ (fun h => by omega) (fun h => by omega) (fun h => by omega)
  · exact h.set _ _ (fun h => by omega) (fun _ => h2) (fun h => by omega)
theorem OkT.stE {g : Int → Int → Int} (hg : FoF g) {V : List Int} (h : OkT V) : OkT (stE g V) := by
  have h1 := h.cnt 22 (Or.inr (Or.inr rfl))
  have ha := h.regs 11 (by omega)
  have hb := h.regs 12 (by omega)
  have h2 := cnt_range (V.getD 22 0) (max 1 (V.getD 11 0 + 256 * V.getD 12 0)) h1.1 (by omega)
  have h3 := (hg (V.getD 13 0 % 16) (V.getD 23 0) h.step.1 h.step.2).1
  unfold Ytmogoaceangblaa.stE
  split
  · exact (h.set _ _ (fun h => by omega) (fun _ => h2) (fun h => by omega)).set _ _ (fun h => by omega) (fun h => by omega) (fun _ => h3)
  · exact h.set _ _ (fun h => by omega) (fun _ => h2) (fun h => by omega)
theorem OkT.stepT {g : Int → Int → Int} (hg : FoF g) {T : List Int} (h : OkT T) : OkT (stepT g T) := ((h.stTo 3 (Nat.le_refl _)).stN).stE hg
def runT (g : Int → Int → Int) (T : List Int) : Nat → List Int
  | 0 => T
  | k + 1 => stepT g (runT g T k)
theorem OkT.runT {g : Int → Int → Int} (hg : FoF g) {T : List Int} (h : OkT T) : ∀ k, OkT (runT g T k)
  | 0 => h
  | k + 1 => (h.runT hg k).stepT hg
/-- The values of the first k steps, and zeros up to n. -/
def outT (f g : Int → Int → Int) (T : List Int) (n k : Nat) : List Int := (List.range n).map fun i => if i < k then valT f (runT g T (i + 1)) (lvTo 14) 3 else 0
theorem outT_len (f g : Int → Int → Int) (T : List Int) (n k : Nat) : (outT f g T n k).length = n := by simp [outT]
theorem outT_set (f g : Int → Int → Int) (T : List Int) (n k : Nat) : (outT f g T n k).set k (valT f (runT g T (k + 1)) (lvTo 14) 3) = outT f g T n (k + 1) := by
  apply List.ext_getElem (by simp [outT])
  intro i h1 h2
  rw [List.getElem_set]
  simp only [outT, List.getElem_map, List.getElem_range]
  split
  · rename_i e; subst e; rw [if_pos (by omega)]
  · rename_i e
    by_cases h : i < k
    · rw [if_pos h, if_pos (by omega)]
    · rw [if_neg h, if_neg (by omega)]
theorem outT_zero (f g : Int → Int → Int) (T : List Int) (n : Nat) : outT f g T n 0 = List.replicate n 0 := by
  apply List.ext_getElem (by simp [outT])
  intro i h1 h2
  simp [outT]
def OutAt (w : World) (b : Nat) (O : List Int) : Prop := w.heap[b]? = some (.cells (icells O).toArray 3 (0, 0))
theorem OutAt.set {w : World} {b k : Nat} {T : List Int} {v : Int} (h : OutAt w b T) : OutAt (w.setCell ⟨b, k, none⟩ (.int .i64 v)) b (T.set k v) := by
  have h1 := heap_setCell_same w b k _ 3 (.int .i64 v) h
  unfold OutAt
  rw [h1]
  simp [icells, List.map_set]
theorem made_out (w : World) (n : Nat) : OutAt (w.alloc (.cells (madeCells #[Value.int .i64 0] n) 3)) w.heap.size (List.replicate n 0) := by
  unfold OutAt
  rw [heap_alloc_new]
  have e : madeCells #[Value.int .i64 0] n = (icells (List.replicate n 0)).toArray := by
    apply Array.toList_inj.1
    rw [toList_madeCells_one]
    simp [icells]
  rw [e]
theorem lv_range : ∀ i, 0 ≤ (lvTo 14).getD i 0 ∧ (lvTo 14).getD i 0 ≤ 8192 := lvTo_range 14
theorem results_tmp_row {fn : Func} {u p : Tmp} (h : fn.results = #[.tmp u, .cell p 57]) (tmps : Array Value) (w : World) (g : Nat) (cs : Array Value)
    (hp : tmps.getD p undef = .pointer (some ⟨g, 0, none⟩)) (hg : w.heap[g]? = some (.cells cs 57 (0, 0))) (hi : (Try.prog.info? 57).map (·.size) = some cs.size) :
    (results fn tmps).run Try.prog w = .ok (.tuple #[tmps.getD u undef, .agg cs]) w := by
  have hp' : tmps[p]?.getD undef = .pointer (some ⟨g, 0, none⟩) := by simpa using hp
  simp [results, h, hp', asAddr, run_loadVar_row w g 57 57 cs (0, 0) _ hg Try.underlying57 rfl hi]
/-- What so many steps give, and the chip behind them. -/
def Ran (f g : Int → Int → Int) (T : List Int) (n : Nat) (w : World) (e : Ending) (w' : World) : Prop :=
  ∃ b c, e = .returned (.tuple #[.slice (some ⟨b, 0, none⟩) n c, .agg (icells (runT g T n)).toArray]) ∧ w.heap.size ≤ b ∧ OutAt w' b (outT f g T n n) ∧ Below w.heap.size w w'
set_option maxHeartbeats 8000000 in
set_option maxRecDepth 100000 in
theorem runs_any (f g : Int → Int → Int) (hf : ShF f) (hg : FoF g) (T : List Int) (n : Nat) (w : World) (hO : OkT T) (hn : n ≤ 4000) :
    Calls Try.prog 21 #[.agg (icells T).toArray, .int .i64 n] w (Ran f g T n w) := by
  have HO := hid hO; have HF := hid hf; have HG := hid hg; have HN := hid hn; clear hO hf hg hn
  have HSZ := hid (size57' HO.out.len)
  obtain ⟨i0, hi, hz0, hz1, hz2⟩ := info_parts info3
  have HI := hid hi; have HZ0 := hid hz0; have HZ1 := hid hz1; have HZ2 := hid hz2; clear hi hz0 hz1 hz2
  go_enter Try.func21, Try.ntmps21
  go_upto_region 1 with (fail)
  obtain ⟨w1, hw1⟩ : ∃ z, z = (w.alloc (Obj.cells (icells T).toArray 57)).alloc (Obj.cells zero24 57) := ⟨_, rfl⟩
  have hz : ((w.alloc (Obj.cells (icells T).toArray 57)).alloc (Obj.cells #[Value.int IntKind.i64 0, Value.int IntKind.i64 0, Value.int IntKind.i64 0, Value.int IntKind.i64 0, Value.int IntKind.i64 0, Value.int IntKind.i64 0, Value.int IntKind.i64 0, Value.int IntKind.i64 0, Value.int IntKind.i64 0, Value.int IntKind.i64 0, Value.int IntKind.i64 0, Value.int IntKind.i64 0, Value.int IntKind.i64 0, Value.int IntKind.i64 0, Value.int IntKind.i64 0, Value.int IntKind.i64 0, Value.int IntKind.i64 0, Value.int IntKind.i64 0, Value.int IntKind.i64 0, Value.int IntKind.i64 0, Value.int IntKind.i64 0, Value.int IntKind.i64 0, Value.int IntKind.i64 0, Value.int IntKind.i64 0] 57)) = w1 := hw1.symm
  rw [hz]
  clear hz
  have HA : Hid (ToneAt w1 w.heap.size T) := hid (by rw [hw1]; exact (ToneAt.new w T).alloc _)
  have HR : Hid (w1.heap[w.heap.size + 1]? = some (.cells zero24 57 (0, 0))) := hid (by rw [hw1]; have := heap_alloc_new (w.alloc (Obj.cells (icells T).toArray 57)) (Obj.cells zero24 57); simpa using this)
  have HB : Hid (Below w.heap.size w w1) := hid (by rw [hw1]; exact Below.grow (Below.grow (Below.refl _ _) _) _)
  have HS : Hid (w1.heap.size = w.heap.size + 2) := hid (by rw [hw1]; simp)
  clear hw1
  go_wp2_with (first | (at_make; refine wpList_make_rows rfl _ _ 30 rfl 3 i0 _ 1 Try.underlying30 HI.out HZ0.out HZ1.out .i64 .i64 n rfl rfl (by rw [HZ2.out]; have := HN.out; omega) (by have := HN.out; omega) ?_))
  obtain ⟨w2, hw2⟩ : ∃ z, z = w1.alloc (Obj.cells (madeCells #[Value.int .i64 0] n) 3) := ⟨_, rfl⟩
  rw [← hw2]
  have HB2 : Hid (Below w1.heap.size w1 w2) := hid (by rw [hw2]; exact Below.grow (Below.refl _ _) _)
  have HOU : Hid (OutAt w2 w1.heap.size (List.replicate n 0)) := hid (by rw [hw2]; exact made_out w1 n)
  have HS2 : Hid (w2.heap.size = w.heap.size + 3) := hid (by rw [hw2]; simp; exact HS.out)
  clear hw2
  refine (levels_any w2).mono ?_
  rintro e w3 ⟨rfl, hb3⟩
  obtain ⟨b3, hb3e⟩ : ∃ z, z = w1.heap.size := ⟨_, rfl⟩
  rw [← hb3e] at HOU ⊢
  have HS3 : Hid (b3 = w.heap.size + 2) := hid (by rw [hb3e]; exact HS.out)
  have HA3 : Hid (ToneAt w3 w.heap.size T) := hid ((HA.out.below HB2.out (by rw [HS.out]; omega)).below hb3 (by rw [HS2.out]; omega))
  have HR3 : Hid (w3.heap[w.heap.size + 1]? = some (.cells zero24 57 (0, 0))) := hid ((hb3.block _ (by rw [HS2.out]; omega)).trans ((HB2.out.block _ (by rw [HS.out]; omega)).trans HR.out))
  have HO3 : Hid (OutAt w3 b3 (List.replicate n 0)) := hid ((hb3.block _ (by rw [HS2.out, HS3.out]; omega)).trans HOU.out)
  have HB3 : Hid (Below w.heap.size w w3) := hid (Below.step (Below.step HB.out HB2.out) hb3)
  have HZ3 : Hid (w.heap.size + 3 ≤ w3.heap.size) := hid (by have := hb3.size; have := HS2.out; omega)
  have HSL : Hid ((Try.prog.info? 73).map (·.size) = some (icells (lvTo 14)).toArray.size) := hid (by rw [size73]; simp [icells, lvTo_len])
  clear hb3 hb3e HOU HA HR HB HB2 HS HS2
  go_upto_region 3 with (first | (refine wpList_store_new rfl 73 _ _ rfl _ (icells (lvTo 14)).toArray rfl rfl HSL.out (by simp [icells, lvTo_len]) (by have := all_oneCell_toArray (icells_one (lvTo 14)); rwa [← Array.all_toList] at this) ?_))
  obtain ⟨w4, hw4⟩ : ∃ z, z = w3.alloc (Obj.cells (icells (lvTo 14)).toArray 73) := ⟨_, rfl⟩
  rw [← hw4]
  obtain ⟨b4, hb4e⟩ : ∃ z, z = w3.heap.size := ⟨_, rfl⟩
  rw [← hb4e]
  have HB34 : Hid (Below w3.heap.size w3 w4) := hid (by rw [hw4]; exact Below.grow (Below.refl _ _) _)
  have HA4 : Hid (ToneAt w4 w.heap.size (runT g T 0)) := hid (HA3.out.below HB34.out HA3.out.lt)
  have HR4 : Hid (w4.heap[w.heap.size + 1]? = some (.cells zero24 57 (0, 0))) := hid ((HB34.out.block _ (by have := HZ3.out; omega)).trans HR3.out)
  have HO4 : Hid (OutAt w4 b3 (outT f g T n 0)) := hid (by rw [outT_zero]; exact (HB34.out.block _ (by have := HZ3.out; rw [HS3.out]; omega)).trans HO3.out)
  have HL4 : Hid (LvAt w4 b4 (lvTo 14)) := hid (by rw [hw4, hb4e]; exact heap_alloc_new _ _)
  have HB4 : Hid (Below w.heap.size w w4) := hid (Below.step HB3.out HB34.out)
  have HZ4 : Hid (w.heap.size + 3 ≤ b4 ∧ b4 < w4.heap.size) := hid ⟨by rw [hb4e]; exact HZ3.out, by rw [hw4, hb4e]; simp⟩
  clear hw4 hb4e HB34 HA3 HR3 HO3 HB3 HZ3
  go_wp2_with fail
  go_loopw [14] (fun i wr => ∃ k : Nat, k ≤ n ∧ i = .int .i64 k ∧ Hid (ToneAt wr w.heap.size (runT g T k)) ∧ Hid (wr.heap[w.heap.size + 1]? = some (.cells zero24 57 (0, 0))) ∧ Hid (OutAt wr b3 (outT f g T n k)) ∧ Hid (LvAt wr b4 (lvTo 14)) ∧ Hid (Below w.heap.size w wr)) (fun i _ => n - (intOf i).toNat)
  case atStart => exact ⟨0, Nat.zero_le _, rfl, HA4, HR4, HO4, HL4, HB4⟩
  case round =>
    obtain ⟨k, hk, rfl, HA, HR, HOU, HL, HB⟩ := hrel
    by_cases hlt : k < n
    · have HOK := hid (HO.out.runT HG.out k)
      have HOS := hid (HO.out.runT HG.out (k + 1))
      have HNX : Hid (stepT g (runT g T k) = runT g T (k + 1)) := hid rfl
      have HNO := hid (outT_set f g T n k)
      obtain ⟨U, hU⟩ : ∃ U, U = runT g T k := ⟨_, rfl⟩
      obtain ⟨V, hV⟩ : ∃ V, V = runT g T (k + 1) := ⟨_, rfl⟩
      rw [← hU] at HA HOK HNX
      rw [← hV] at HOS HNX HNO
      have HVE := hid hV
      have HSU := hid (size57' HOK.out.len); have HSV := hid (size57' HOS.out.len)
      have hk0 : (0 : Int) ≤ (k : Int) := by omega
      have hk1 : (k : Int) < (n : Int) := by omega
      have hk4 : k < 4000 := by have := HN.out; omega
      clear hU hV
      go_wp2_with (first | (refine wpList_load_row rfl 57 _ rfl w.heap.size rfl 57 _ (0, 0) _ HA.out Try.underlying57 rfl HSU.out ?_))
      refine (stepped_any g HG.out U wr HOK.out).mono ?_
      rintro e w5 ⟨rfl, hb5⟩
      rw [HNX.out]
      have HA5 := hid (HA.out.below hb5 HA.out.lt)
      have HZ5 : Hid (b4 < wr.heap.size) := hid (Array.getElem?_eq_some_iff.1 HL.out).1
      have HR5 : Hid (w5.heap[w.heap.size + 1]? = some (.cells zero24 57 (0, 0))) := hid ((hb5.block _ (by have := HS3.out; have := HZ4.out; have := HZ5.out; omega)).trans HR.out)
      have HO5 : Hid (OutAt w5 b3 (outT f g T n k)) := hid ((hb5.block _ (by have := HS3.out; have := HZ4.out; have := HZ5.out; omega)).trans HOU.out)
      have HL5 : Hid (LvAt w5 b4 (lvTo 14)) := hid ((hb5.block _ (by have := HS3.out; have := HZ4.out; have := HZ5.out; omega)).trans HL.out)
      have HB5 : Hid (Below w.heap.size w w5) := hid (Below.step HB.out hb5)
      clear hb5
      go_upto_region 7 with (first | (refine wpList_store_row rfl 57 _ _ rfl w.heap.size (icells V).toArray rfl rfl 57 _ HA5.out HSV.out (by simp only [List.size_toArray, icells_len]; rw [HOK.out.len, HOS.out.len]) (all_oneCell_toArray (icells_one V)) ?_))
      obtain ⟨w6, hw6⟩ : ∃ z, z = w5.setRow w.heap.size (icells V).toArray := ⟨_, rfl⟩
      rw [← hw6]
      have HA6 : Hid (ToneAt w6 w.heap.size V) := hid (by rw [hw6]; exact setRow_heap w5 _ _ _ 57 (0, 0) HA5.out)
      have HR6 : Hid (w6.heap[w.heap.size + 1]? = some (.cells zero24 57 (0, 0))) := hid (by rw [hw6, setRow_other _ _ _ _ (by have := HS3.out; have := HZ4.out; have := HZ5.out;  omega)]; exact HR5.out)
      have HO6 : Hid (OutAt w6 b3 (outT f g T n k)) := hid (by unfold OutAt; rw [hw6, setRow_other _ _ _ _ (by have := HS3.out; have := HZ4.out; have := HZ5.out;  omega)]; exact HO5.out)
      have HL6 : Hid (LvAt w6 b4 (lvTo 14)) := hid (by unfold LvAt; rw [hw6, setRow_other _ _ _ _ (by have := HS3.out; have := HZ4.out; have := HZ5.out;  omega)]; exact HL5.out)
      have HB6 : Hid (Below w.heap.size w w6) := hid (by rw [hw6]; exact Below.row HB5.out (Nat.le_refl _) _)
      clear hw6 HA5 HR5 HO5 HL5 HB5
      go_wp2_with fail
      refine (value_any f HF.out V (lvTo 14) w.heap.size b4 w6 HOS.out (lvTo_len 14) lv_range HA6.out HL6.out).mono ?_
      rintro e w7 ⟨rfl, hb7⟩
      have HZ6 : Hid (b4 < w6.heap.size) := hid (Array.getElem?_eq_some_iff.1 HL6.out).1
      obtain ⟨x, hx⟩ : ∃ x, x = valT f V (lvTo 14) 3 := ⟨_, rfl⟩
      rw [← hx] at HNO ⊢
      have HA7 := hid (HA6.out.below hb7 HA6.out.lt)
      have HR7 : Hid (w7.heap[w.heap.size + 1]? = some (.cells zero24 57 (0, 0))) := hid ((hb7.block _ (by have := HS3.out; have := HZ4.out; have := HZ5.out; have := HZ6.out; omega)).trans HR6.out)
      have HO7 : Hid (OutAt w7 b3 (outT f g T n k)) := hid ((hb7.block _ (by have := HS3.out; have := HZ4.out; have := HZ5.out; have := HZ6.out; omega)).trans HO6.out)
      have HL7 : Hid (LvAt w7 b4 (lvTo 14)) := hid ((hb7.block _ (by have := HS3.out; have := HZ4.out; have := HZ5.out; have := HZ6.out; omega)).trans HL6.out)
      have HB7 : Hid (Below w.heap.size w w7) := hid (Below.step HB6.out hb7)
      obtain ⟨y, hy⟩ : ∃ y, (outT f g T n k)[k]? = some y := ⟨_, List.getElem?_eq_getElem (by rw [outT_len]; exact hlt)⟩
      have hcy : w7.cell? ⟨b3, k, none⟩ = some (.int .i64 y) := cell_of_cells HO7.out (by simpa using icells_at hy)
      have hfy : w7.frozen? ⟨b3, k, none⟩ = false := frozen_of_cells HO7.out
      have HN3 : Hid (w.heap.size ≠ b3 ∧ w.heap.size + 1 ≠ b3 ∧ b4 ≠ b3 ∧ w.heap.size ≤ b3) := hid (by have := HS3.out; have := HZ4.out; omega)
      clear hb7 hx hy
      go_wp2_with fail
      go_roundw
      case rel =>
        refine ⟨k + 1, by omega, by go_num, hid (by rw [← HVE.out]; exact HA7.out.far HN3.out.1), hid (by rw [heap_setCell_other _ ⟨b3, k, none⟩ _ _ (by simpa using HN3.out.2.1)]; exact HR7.out), hid (by rw [← HNO.out]; exact HO7.out.set), hid (by unfold LvAt; rw [heap_setCell_other _ ⟨b3, k, none⟩ _ _ (by simpa using HN3.out.2.2.1)]; exact HL7.out), hid (HB7.out.setCell (p := ⟨b3, k, none⟩) HN3.out.2.2.2 _)⟩
      case measure => simp [intOf]; omega
    · obtain rfl : k = n := by omega
      go_wp2_with fail
      have HOK := hid (HO.out.runT HG.out k)
      have HSU := hid (size57' HOK.out.len)
      have HAD : Hid (ToneAt wr.drew w.heap.size (runT g T k)) := HA
      have HRD : Hid (wr.drew.heap[w.heap.size + 1]? = some (.cells zero24 57 (0, 0))) := HR
      have HOD : Hid (OutAt wr.drew b3 (outT f g T k k)) := HOU
      have HBD : Hid (Below w.heap.size w wr.drew) := hid HB.out.drew
      refine wp_region_late (S := fun w' => ToneAt w' w.heap.size (runT g T k)) [3] (by kernel_rfl) ?_
      obtain ⟨wd, hwd⟩ : ∃ z, z = wr.drew := ⟨_, rfl⟩
      rw [← hwd] at HAD HRD HOD HBD ⊢
      clear hwd HA HR HOU HL HB
      refine wpLate_pure (i := 0) (oi := { dst := some 24, op := Op.move (Operand.tmp 6), type := 30, pos := "chip.go:183", after := #[], guard := none }) (v := ?vp1) rfl (by kernel_rfl) (by kernel_rfl) (by kernel_rfl) (by first | rfl | simp) (fun _ _ _ h => h) (Or.inl ⟨by rfl, ?hp1⟩) (fun _ => HAD.out) ?rp1
      case hp1 => (intro w _; go_simp; try with_reducible rfl)
      (try simp only [Act.put, List.setIfInBounds_toArray, List.set_cons_zero, List.set_cons_succ])
      refine wpLate_take (i := 1) (oi := { dst := some 25, op := Op.load 57 (Operand.tmp 2), type := 57, pos := "chip.go:183", after := #[{ on := 2, ground := Ground.gcOnly Departure.lateStores }], guard := none }) rfl (by kernel_rfl) (by kernel_rfl) (by kernel_rfl) (by kernel_rfl) (by kernel_rfl) (fun _ _ _ h => h) (yieldsIf_load_row (by rfl) 57 _ rfl w.heap.size rfl (icells (runT g T k)).toArray (fun _ h => h) rfl HSU.out) (HAD.out) ?_
      (try simp only [Act.put, List.setIfInBounds_toArray, List.set_cons_zero, List.set_cons_succ])
      refine wpLate_pure (i := 2) (oi := { dst := some 4, op := Op.assign (Operand.tmp 24), type := 30, pos := "chip.go:183", after := #[{ on := 0, ground := Ground.data }, { on := 0, ground := Ground.phase }, { on := 1, ground := Ground.textOnly Departure.lateStores }], guard := none }) (v := ?vp2) rfl (by kernel_rfl) (by kernel_rfl) (by kernel_rfl) (by first | rfl | simp) (fun _ _ _ h => h) (Or.inl ⟨by rfl, ?hp2⟩) (fun _ => HAD.out) ?rp2
      case hp2 => (intro w _; go_simp; try with_reducible rfl)
      (try simp only [Act.put, List.setIfInBounds_toArray, List.set_cons_zero, List.set_cons_succ])
      refine wpLate_all (rs := [3]) (by kernel_rfl) (by simp) ?_
      intro i hi
      simp only [List.mem_cons, List.not_mem_nil, or_false] at hi
      subst hi
      refine wpOp_do (oi := { dst := none, op := Op.store 57 (Operand.tmp 5) (Operand.tmp 25), type := 0, pos := "chip.go:183", after := #[{ on := 1, ground := Ground.data }, { on := 2, ground := Ground.chain }, { on := 0, ground := Ground.phase }, { on := 1, ground := Ground.phase }, { on := 2, ground := Ground.phase }], guard := none }) rfl (by rfl) ?_
      refine wp_store_row 57 _ _ rfl (w.heap.size + 1) (icells (runT g T k)).toArray (by rfl) (by rfl) 57 _ HRD.out HSU.out (by rw [show zero24.size = 24 from rfl]; simp only [List.size_toArray, icells_len]; exact HOK.out.len.symm) (all_oneCell_toArray (icells_one _)) ?_
      refine ⟨(fun h => by cases h), ?_⟩
      refine wpLate_done (by kernel_rfl) ?_ _
      obtain ⟨w6, hw6⟩ : ∃ z, z = wd.setRow (w.heap.size + 1) (icells (runT g T k)).toArray := ⟨_, rfl⟩
      rw [← hw6]
      have HR6 : Hid (w6.heap[w.heap.size + 1]? = some (.cells (icells (runT g T k)).toArray 57 (0, 0))) := hid (by rw [hw6]; exact setRow_heap wd _ _ _ 57 (0, 0) HRD.out)
      have HO6 : Hid (OutAt w6 b3 (outT f g T k k)) := hid (by unfold OutAt; rw [hw6, setRow_other _ _ _ _ (by have := HS3.out; omega)]; exact HOD.out)
      have HB6 : Hid (Below w.heap.size w w6) := hid (by rw [hw6]; exact Below.row HBD.out (by omega) _)
      clear hw6
      go_wp2_with fail
      refine bodyPost_ret (results_tmp_row rfl _ _ (w.heap.size + 1) _ rfl HR6.out HSU.out) rfl ?_
      exact ⟨b3, k, rfl, by have := HS3.out; omega, HO6.out, HB6.out⟩
end Go.Proofs.Ytmogoaceangblaa
