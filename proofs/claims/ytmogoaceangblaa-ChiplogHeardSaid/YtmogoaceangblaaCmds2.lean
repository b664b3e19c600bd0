/- chiplog's tape: runs, singles, repeats. -/
import Derived.Test.YtmogoaceangblaaCmds1
namespace Go.Proofs.Ytmogoaceangblaa
open Go.RowKit

theorem flat_at {log : List (List Int)} (h : ∀ z ∈ log, z.length = 14) {i j : Nat} {z : List Int} {v : Value} (hz : log[i]? = some z) (hj : (icells z)[j]? = some v) : (flat log)[i * 14 + j]? = some v := by
  induction log generalizing i with
  | nil => simp at hz
  | cons y log ih =>
    have hy := h y (by simp)
    have hjl : j < 14 := by
      have := (List.getElem?_eq_some_iff.1 hj).1
      rw [icells_len, h z (List.mem_of_getElem? hz)] at this; exact this
    have hf : flat (y :: log) = icells y ++ flat log := by simp [flat]
    rw [hf]
    cases i with
    | zero =>
      simp at hz; subst hz
      rw [List.getElem?_append_left (by rw [icells_len]; omega)]
      simpa using hj
    | succ i =>
      rw [List.getElem?_append_right (by rw [icells_len]; omega), icells_len, hy, show (i + 1) * 14 + j - 14 = i * 14 + j by omega]
      exact ih (fun z hz => h z (by simp [hz])) (by simpa using hz)
/-- A tape's entries, as the entry before one looks them up. -/
theorem TapeV.ent {w : World} {t at_ : Nat} {sb vl vc : Value} {log : List (List Int)} {cyc : List Int} (h : TapeV w t sb at_ log cyc vl vc) : ∃ A c, vl = .slice A log.length c ∧ EntAt w A log := by
  rcases h.ownL.2 with ⟨rfl, h0⟩ | ⟨g, cap, cur, rfl, _, h3, h4, _, h6, h7⟩
  · exact ⟨none, 0, by rw [h0], fun i z hz => by have := (List.getElem?_eq_some_iff.1 hz).1; omega⟩
  · refine ⟨_, cap, rfl, fun i z hz => ?_⟩
    have hl := h.len z (List.mem_of_getElem? hz)
    refine ⟨hl, g, rfl, fun j v hj => ?_⟩
    have hjl : j < 14 := by have := (List.getElem?_eq_some_iff.1 hj).1; rw [icells_len] at this; omega
    refine cell_of_cells h3 ?_
    have hf : (flat log)[i * 14 + j]? = some v := flat_at h.len hz hj
    rw [← h7] at hf
    rw [List.getElem?_take] at hf
    split at hf
    · simpa using hf
    · cases hf

set_option maxHeartbeats 4000000 in
set_option maxRecDepth 100000 in
theorem truns_any (w : World) (t : Nat) (A : Option Addr) (c : Nat) (b : List Int) (at_ : Nat) (log : List (List Int)) (cyc : List Int) (vl vc : Value) (n : Nat)
    (h : TapeV w t (.slice A b.length c) at_ log cyc vl vc) (hn : n ≤ 127) :
    Calls Try.prog 32 #[.pointer (some ⟨t, 0, none⟩), .int .i64 n] w (TapeTo w t (.slice A b.length c) vl vc (atS at_ (runsL (lastOf log) n log cyc))) := by
  obtain ⟨EA, ec, rfl, hE⟩ := h.ent
  have hc2 := cell_of_cells (k := 2) h.blk rfl
  have HH := hid h; have HE := hid hE
  clear h hE
  go_enter Try.func32, Try.ntmps32
  go_wp2_with fail
  obtain ⟨wb, hwb⟩ : ∃ z, z = w := ⟨_, rfl⟩
  have HHB : Hid (TapeV wb t (.slice A b.length c) at_ log cyc (.slice EA log.length ec) vc) := hid (by rw [hwb]; exact HH.out)
  have HC2 : Hid (wb.cell? ⟨t, 2, none⟩ = some (.slice EA log.length ec)) := hid (by rw [hwb]; exact hc2)
  have HCB : Hid (∀ W, Below wb.heap.size wb W → W.cell? ⟨t, 2, none⟩ = some (.slice EA log.length ec)) := hid (fun W h => (h.cell (p := ⟨t, 2, none⟩) HHB.out.lt).trans HC2.out)
  have HEB : Hid (∀ W, Below wb.heap.size wb W → EntAt W EA log) := hid (fun W h => by rw [hwb] at h; exact HE.out.below h)
  have HPN : Hid ((icells (prev log log.length)).toArray.size = 14) := hid (by simp [icells_len, prev_len HH.out.len (Nat.le_refl _)])
  have h4 := HH.out.le4
  rw [← hwb]
  have HWB := hid hwb
  clear hwb hc2
  have HS : (fun w' : World => w'.cell? ⟨t, 2, none⟩ = some (.slice EA log.length ec)) wb.drew := HC2.out
  refine wp_region_late (S := fun w' => w'.cell? ⟨t, 2, none⟩ = some (.slice EA log.length ec)) [] (by kernel_rfl) ?_
  refine wpLate_pure (i := 0) (oi := { dst := some 5, op := Op.move (Operand.tmp 0), type := 45, pos := "chiplog.go:186", after := #[], guard := none }) (v := ?va_0) rfl (by kernel_rfl) (by kernel_rfl) (by kernel_rfl) (by first | rfl | simp) (fun _ _ _ h => h) (Or.inl ⟨by rfl, ?ha_0⟩) (fun _ => HS) ?ra_0
  case ha_0 => (intro w _; go_simp; try with_reducible rfl)
  (try simp only [Act.put, List.setIfInBounds_toArray, List.set_cons_zero, List.set_cons_succ])
  refine wpLate_pure (i := 1) (oi := { dst := some 6, op := Op.nilCheck (Operand.tmp 5), type := 0, pos := "chiplog.go:186", after := #[{ on := 0, ground := Ground.data }], guard := none }) (v := ?va_1) rfl (by kernel_rfl) (by kernel_rfl) (by kernel_rfl) (by first | rfl | simp) (fun _ _ _ h => h) (Or.inl ⟨by rfl, ?ha_1⟩) (fun _ => HS) ?ra_1
  case ha_1 => (intro w _; go_simp; try with_reducible rfl)
  (try simp only [Act.put, List.setIfInBounds_toArray, List.set_cons_zero, List.set_cons_succ])
  refine wpLate_pure (i := 2) (oi := { dst := some 7, op := Op.fieldAddr 49 (Operand.tmp 6) 2, type := 0, pos := "chiplog.go:186", after := #[{ on := 1, ground := Ground.data }], guard := none }) (v := ?va_2) rfl (by kernel_rfl) (by kernel_rfl) (by kernel_rfl) (by first | rfl | simp) (fun _ _ _ h => h) (Or.inl ⟨by rfl, ?ha_2⟩) (fun _ => HS) ?ra_2
  case ha_2 => (intro w _; go_simp; try with_reducible rfl)
  (try simp only [Act.put, List.setIfInBounds_toArray, List.set_cons_zero, List.set_cons_succ])
  refine wpLate_take (i := 3) (oi := { dst := some 8, op := Op.load 35 (Operand.tmp 7), type := 35, pos := "chiplog.go:186", after := #[{ on := 2, ground := Ground.data }], guard := none }) (v := ?va_3) rfl (by kernel_rfl) (by kernel_rfl) (by kernel_rfl) (by kernel_rfl) (by kernel_rfl) (fun _ _ _ h => h) (Or.inl ⟨by rfl, ?ha_3⟩) HS ?ra_3
  case ha_3 => (intro w hSw; (try dsimp only at hSw); go_simp; try with_reducible rfl)
  (try simp only [Act.put, List.setIfInBounds_toArray, List.set_cons_zero, List.set_cons_succ])
  refine wpLate_pure (i := 4) (oi := { dst := some 9, op := Op.move (Operand.tmp 0), type := 45, pos := "chiplog.go:186", after := #[], guard := none }) (v := ?va_4) rfl (by kernel_rfl) (by kernel_rfl) (by kernel_rfl) (by first | rfl | simp) (fun _ _ _ h => h) (Or.inl ⟨by rfl, ?ha_4⟩) (fun _ => HS) ?ra_4
  case ha_4 => (intro w _; go_simp; try with_reducible rfl)
  (try simp only [Act.put, List.setIfInBounds_toArray, List.set_cons_zero, List.set_cons_succ])
  refine wpLate_pure (i := 5) (oi := { dst := some 10, op := Op.nilCheck (Operand.tmp 9), type := 0, pos := "chiplog.go:186", after := #[{ on := 4, ground := Ground.data }], guard := none }) (v := ?va_5) rfl (by kernel_rfl) (by kernel_rfl) (by kernel_rfl) (by first | rfl | simp) (fun _ _ _ h => h) (Or.inl ⟨by rfl, ?ha_5⟩) (fun _ => HS) ?ra_5
  case ha_5 => (intro w _; go_simp; try with_reducible rfl)
  (try simp only [Act.put, List.setIfInBounds_toArray, List.set_cons_zero, List.set_cons_succ])
  refine wpLate_pure (i := 6) (oi := { dst := some 11, op := Op.fieldAddr 49 (Operand.tmp 10) 2, type := 0, pos := "chiplog.go:186", after := #[{ on := 5, ground := Ground.data }], guard := none }) (v := ?va_6) rfl (by kernel_rfl) (by kernel_rfl) (by kernel_rfl) (by first | rfl | simp) (fun _ _ _ h => h) (Or.inl ⟨by rfl, ?ha_6⟩) (fun _ => HS) ?ra_6
  case ha_6 => (intro w _; go_simp; try with_reducible rfl)
  (try simp only [Act.put, List.setIfInBounds_toArray, List.set_cons_zero, List.set_cons_succ])
  refine wpLate_take (i := 7) (oi := { dst := some 12, op := Op.load 35 (Operand.tmp 11), type := 35, pos := "chiplog.go:186", after := #[{ on := 6, ground := Ground.data }], guard := none }) (v := ?va_7) rfl (by kernel_rfl) (by kernel_rfl) (by kernel_rfl) (by kernel_rfl) (by kernel_rfl) (fun _ _ _ h => h) (Or.inl ⟨by rfl, ?ha_7⟩) HS ?ra_7
  case ha_7 => (intro w hSw; (try dsimp only at hSw); go_simp; try with_reducible rfl)
  (try simp only [Act.put, List.setIfInBounds_toArray, List.set_cons_zero, List.set_cons_succ])
  refine wpLate_pure (i := 8) (oi := { dst := some 13, op := Op.call { callee := Callee.builtin Builtin.len, args := #[Operand.tmp 12], argTypes := #[35] }, type := 3, pos := "chiplog.go:186", after := #[{ on := 7, ground := Ground.data }], guard := none }) (v := ?va_8) rfl (by kernel_rfl) (by kernel_rfl) (by kernel_rfl) (by first | rfl | simp) (fun _ _ _ h => h) (Or.inl ⟨by rfl, ?ha_8⟩) (fun _ => HS) ?ra_8
  case ha_8 => (intro w _; go_simp; try with_reducible rfl)
  (try simp only [Act.put, List.setIfInBounds_toArray, List.set_cons_zero, List.set_cons_succ])
  obtain ⟨wz, hwz⟩ : ∃ z, z = wb.drew := ⟨_, rfl⟩
  rw [← hwz]
  have HBwz : Hid (Below wb.heap.size wb wz) := hid (by rw [hwz]; exact (Below.refl _ _).drew)
  clear hwz HS
  refine wpLate_all (rs := [9, 10]) (by kernel_rfl) (by simp) ?_
  intro i hi
  simp only [List.mem_cons, List.not_mem_nil, or_false] at hi
  rcases hi with rfl | rfl
  refine wpOp_do (oi := { dst := some 14, op := Op.call { callee := Callee.value (Operand.func 15), args := #[Operand.tmp 8, Operand.tmp 13], argTypes := #[35, 3] }, type := 43, pos := "chiplog.go:186", after := #[{ on := 3, ground := Ground.data }, { on := 8, ground := Ground.data }], guard := none }) rfl (by rfl) ?_
  go_simp
  refine (before_any EA log ec log.length _ (HEB.out _ HBwz.out) (Nat.le_refl _) (by omega)).mono ?_
  rintro e wc ⟨rfl, hb_wc⟩
  have HBwc := hid (Below.step HBwz.out hb_wc); have HSwc := hid hb_wc.size; clear hb_wc
  dsimp only
  refine ⟨HCB.out _ HBwc.out, ?_⟩
  refine wpLate_all (rs := [10]) (by kernel_rfl) (by simp) ?_
  intro i hi
  simp only [List.mem_cons, List.not_mem_nil, or_false] at hi
  subst hi
  refine wpOp_do (oi := { dst := some 4, op := Op.alloc 43, type := 0, pos := "chiplog.go:186", after := #[], guard := none }) rfl (by rfl) ?_
  go_simp
  obtain ⟨wd, hw⟩ : ∃ z, z = wc.alloc (Obj.cells #[Value.int IntKind.i64 0, Value.int IntKind.i64 0, Value.int IntKind.i64 0, Value.int IntKind.i64 0, Value.int IntKind.i64 0, Value.int IntKind.i64 0, Value.int IntKind.i64 0, Value.int IntKind.i64 0, Value.int IntKind.i64 0, Value.int IntKind.i64 0, Value.int IntKind.i64 0, Value.int IntKind.i64 0, Value.int IntKind.i64 0, Value.int IntKind.i64 0] 43) := ⟨_, rfl⟩
  rw [← hw]
  have HBwd : Hid (Below wb.heap.size wb wd) := hid (by rw [hw]; exact Below.grow HBwc.out _)
  obtain ⟨bx, hbx⟩ : ∃ z, z = wc.heap.size := ⟨_, rfl⟩
  have HNEW : Hid (wd.heap[bx]? = some (.cells #[Value.int IntKind.i64 0, Value.int IntKind.i64 0, Value.int IntKind.i64 0, Value.int IntKind.i64 0, Value.int IntKind.i64 0, Value.int IntKind.i64 0, Value.int IntKind.i64 0, Value.int IntKind.i64 0, Value.int IntKind.i64 0, Value.int IntKind.i64 0, Value.int IntKind.i64 0, Value.int IntKind.i64 0, Value.int IntKind.i64 0, Value.int IntKind.i64 0] 43 (0, 0))) := hid (by rw [hw, hbx]; exact heap_alloc_new wc _)
  have HXB : Hid (wb.heap.size ≤ bx) := hid (by rw [hbx]; exact HBwc.out.size)
  rw [← hbx]
  clear hw hbx
  refine ⟨(by first | exact HCB.out _ HBwd.out | exact HCB.out _ HBwc.out), ?_⟩
  refine wpLate_all (rs := [11]) (by kernel_rfl) (by simp) ?_
  intro i hi
  simp only [List.mem_cons, List.not_mem_nil, or_false] at hi
  subst hi
  refine wpOp_do (oi := { dst := none, op := Op.store 43 (Operand.tmp 4) (Operand.tmp 14), type := 0, pos := "chiplog.go:186", after := #[{ on := 10, ground := Ground.data }, { on := 9, ground := Ground.data }, { on := 9, ground := Ground.chain }, { on := 0, ground := Ground.phase }, { on := 1, ground := Ground.phase }, { on := 2, ground := Ground.phase }, { on := 3, ground := Ground.phase }, { on := 4, ground := Ground.phase }, { on := 5, ground := Ground.phase }, { on := 6, ground := Ground.phase }, { on := 7, ground := Ground.phase }, { on := 8, ground := Ground.phase }, { on := 9, ground := Ground.phase }, { on := 10, ground := Ground.phase }], guard := none }) rfl (by rfl) ?_
  refine wp_store_row 43 _ _ rfl bx (icells (prev log log.length)).toArray (by rfl) (by rfl) 43 _ HNEW.out (by rw [HPN.out]; exact size75) (by rw [HPN.out]; rfl) (all_oneCell_toArray (icells_one _)) ?_
  obtain ⟨wf, hwf⟩ : ∃ z, z = wd.setRow bx (icells (prev log log.length)).toArray := ⟨_, rfl⟩
  have HXF : Hid (TapeRow wf bx (prev log log.length)) := hid (by rw [hwf]; exact setRow_heap wd bx _ _ 43 (0, 0) HNEW.out)
  have HBF : Hid (Below wb.heap.size wb wf) := hid (by rw [hwf]; exact Below.row HBwd.out HXB.out _)
  rw [← hwf]
  clear hwf HNEW
  simp only [Act.put]
  refine ⟨fun _ => HCB.out _ HBF.out, ?_⟩
  refine wpLate_done (by kernel_rfl) ?_ _
  rotate_left
  refine wpOp_do (oi := { dst := some 4, op := Op.alloc 43, type := 0, pos := "chiplog.go:186", after := #[], guard := none }) rfl (by rfl) ?_
  go_simp
  obtain ⟨wc, hw⟩ : ∃ z, z = wz.alloc (Obj.cells #[Value.int IntKind.i64 0, Value.int IntKind.i64 0, Value.int IntKind.i64 0, Value.int IntKind.i64 0, Value.int IntKind.i64 0, Value.int IntKind.i64 0, Value.int IntKind.i64 0, Value.int IntKind.i64 0, Value.int IntKind.i64 0, Value.int IntKind.i64 0, Value.int IntKind.i64 0, Value.int IntKind.i64 0, Value.int IntKind.i64 0, Value.int IntKind.i64 0] 43) := ⟨_, rfl⟩
  rw [← hw]
  have HBwc : Hid (Below wb.heap.size wb wc) := hid (by rw [hw]; exact Below.grow HBwz.out _)
  obtain ⟨bx, hbx⟩ : ∃ z, z = wz.heap.size := ⟨_, rfl⟩
  have HNEW : Hid (wc.heap[bx]? = some (.cells #[Value.int IntKind.i64 0, Value.int IntKind.i64 0, Value.int IntKind.i64 0, Value.int IntKind.i64 0, Value.int IntKind.i64 0, Value.int IntKind.i64 0, Value.int IntKind.i64 0, Value.int IntKind.i64 0, Value.int IntKind.i64 0, Value.int IntKind.i64 0, Value.int IntKind.i64 0, Value.int IntKind.i64 0, Value.int IntKind.i64 0, Value.int IntKind.i64 0] 43 (0, 0))) := hid (by rw [hw, hbx]; exact heap_alloc_new wz _)
  have HXB : Hid (wb.heap.size ≤ bx) := hid (by rw [hbx]; exact HBwz.out.size)
  rw [← hbx]
  clear hw hbx
  refine ⟨(by first | exact HCB.out _ HBwc.out | exact HCB.out _ HBwz.out), ?_⟩
  refine wpLate_all (rs := [9]) (by kernel_rfl) (by simp) ?_
  intro i hi
  simp only [List.mem_cons, List.not_mem_nil, or_false] at hi
  subst hi
  refine wpOp_do (oi := { dst := some 14, op := Op.call { callee := Callee.value (Operand.func 15), args := #[Operand.tmp 8, Operand.tmp 13], argTypes := #[35, 3] }, type := 43, pos := "chiplog.go:186", after := #[{ on := 3, ground := Ground.data }, { on := 8, ground := Ground.data }], guard := none }) rfl (by rfl) ?_
  go_simp
  refine (before_any EA log ec log.length _ (HEB.out _ HBwc.out) (Nat.le_refl _) (by omega)).mono ?_
  rintro e wd ⟨rfl, hb_wd⟩
  have HBwd := hid (Below.step HBwc.out hb_wd); have HNEW2 := hid ((hb_wd.block bx (Array.getElem?_eq_some_iff.1 HNEW.out).1).trans HNEW.out); clear hb_wd
  dsimp only
  refine ⟨HCB.out _ HBwd.out, ?_⟩
  refine wpLate_all (rs := [11]) (by kernel_rfl) (by simp) ?_
  intro i hi
  simp only [List.mem_cons, List.not_mem_nil, or_false] at hi
  subst hi
  refine wpOp_do (oi := { dst := none, op := Op.store 43 (Operand.tmp 4) (Operand.tmp 14), type := 0, pos := "chiplog.go:186", after := #[{ on := 10, ground := Ground.data }, { on := 9, ground := Ground.data }, { on := 9, ground := Ground.chain }, { on := 0, ground := Ground.phase }, { on := 1, ground := Ground.phase }, { on := 2, ground := Ground.phase }, { on := 3, ground := Ground.phase }, { on := 4, ground := Ground.phase }, { on := 5, ground := Ground.phase }, { on := 6, ground := Ground.phase }, { on := 7, ground := Ground.phase }, { on := 8, ground := Ground.phase }, { on := 9, ground := Ground.phase }, { on := 10, ground := Ground.phase }], guard := none }) rfl (by rfl) ?_
  refine wp_store_row 43 _ _ rfl bx (icells (prev log log.length)).toArray (by rfl) (by rfl) 43 _ HNEW2.out (by rw [HPN.out]; exact size75) (by rw [HPN.out]; rfl) (all_oneCell_toArray (icells_one _)) ?_
  obtain ⟨wf, hwf⟩ : ∃ z, z = wd.setRow bx (icells (prev log log.length)).toArray := ⟨_, rfl⟩
  have HXF : Hid (TapeRow wf bx (prev log log.length)) := hid (by rw [hwf]; exact setRow_heap wd bx _ _ 43 (0, 0) HNEW2.out)
  have HBF : Hid (Below wb.heap.size wb wf) := hid (by rw [hwf]; exact Below.row HBwd.out HXB.out _)
  rw [← hwf]
  clear hwf HNEW
  simp only [Act.put]
  refine ⟨fun _ => HCB.out _ HBF.out, ?_⟩
  refine wpLate_done (by kernel_rfl) ?_ _
  all_goals
    have hlw : n < 4000 := by omega
    obtain ⟨x, hx⟩ : ∃ x, x = prev log log.length := ⟨_, rfl⟩
    have HXL : Hid (x.length = 14) := hid (by rw [hx]; exact prev_len HH.out.len (Nat.le_refl _))
    have HXS : Hid ((Try.prog.info? 43).map (·.size) = some (icells x).length) := hid (by rw [icells_len, HXL.out]; exact size75)
    rw [← hx] at HXF ⊢
    have HX0 : Hid (lastOf log = x) := hid hx.symm
    have HON : Hid (Only (Own t (.slice EA log.length ec) vc) w wf) := hid (by have := HBF.out; rw [HWB.out] at this; exact Only.ofBelow this)
    have HTF : Hid (TapeV wf t (.slice A b.length c) at_ log cyc (.slice EA log.length ec) vc) := hid (HHB.out.below HBF.out)
    have HNB : Hid (¬ Own t (.slice EA log.length ec) vc bx) := hid (fun h => by have h1 := (HHB.out.own_ge bx h).2; have h2 := HXB.out; omega)
    have HBL : Hid (wb.heap.size ≤ bx) := HXB
    clear hx
    go_wp2_with fail
    go_loopw [16] (fun i wr => ∃ (k : Nat) (vl' vc' : Value) (l' : List (List Int)) (c' : List Int), k ≤ n ∧ i = .int .i64 k ∧ Hid (runsL x (n - k) l' c' = runsL x n log cyc) ∧ Hid (TapeV wr t (.slice A b.length c) at_ l' c' vl' vc') ∧ Hid (TapeRow wr bx x) ∧ Hid (Only (Own t (.slice EA log.length ec) vc) w wr) ∧ Hid (∀ q, Own t vl' vc' q → Own t (.slice EA log.length ec) vc q ∨ w.heap.size ≤ q) ∧ Hid (¬ Own t vl' vc' bx)) (fun i _ => n - (intOf i).toNat)
    case atStart => exact ⟨0, _, _, log, cyc, Nat.zero_le _, rfl, hid rfl, HTF, HXF, HON, hid (fun q hq => Or.inl hq), HNB⟩
    case round =>
      obtain ⟨k, vl', vc', l', c', hk, rfl, HU, HT, HX, HO, HW, HN⟩ := hrel
      by_cases hlt : k < n
      · have HRX : Hid (wr.rangeAt bx 0 (icells x)) := hid (fun j v hj => by rw [Nat.zero_add]; exact cell_of_cells HX.out (by simpa using hj))
        have HSTEP : Hid (runsL x n log cyc = match putL l' c' x 6 with | .inl e => .inl e | .inr (l, c) => runsL x (n - (k + 1)) l c) := hid (by rw [← HU.out, show n - k = (n - (k + 1)) + 1 by omega]; rfl)
        go_wp2_with (first | (refine wpList_load_mid rfl 43 _ rfl bx 0 rfl (icells x) _ HRX.out Try.underlying43 rfl HXS.out ?_))
        refine (tput_any _ t _ at_ l' c' vl' vc' x 6 HT.out HXL.out).mono ?_
        intro e w2 hto
        cases hp : putL l' c' x 6 with
        | inl er =>
          have hp' : putS at_ l' c' x 6 = .inl er := by unfold putS; rw [hp]
          rw [hp'] at hto
          obtain ⟨rfl, ho⟩ := hto
          refine ⟨rfl, ?_⟩
          have hr : runsL (lastOf log) n log cyc = .inl er := by rw [HX0.out, HSTEP.out, hp]
          unfold TapeTo
          rw [hr]
          exact ⟨rfl, HO.out.trans ho HW.out⟩
        | inr s =>
          obtain ⟨l2, c2⟩ := s
          have hp' : putS at_ l' c' x 6 = .inr (at_, l2, c2) := by unfold putS; rw [hp]
          rw [hp'] at hto
          obtain ⟨rfl, vl2, vc2, ht2, ho, hw2⟩ := hto
          have HP := hid hp; have HT2 := hid ht2; have HO2 := hid ho; have HW2 := hid hw2
          clear hp hp' ht2 ho hw2
          go_wp2
          go_roundw
          case rel =>
            refine ⟨k + 1, vl2, vc2, l2, c2, by omega, by go_num, hid (by rw [HSTEP.out, HP.out]), HT2, hid (HX.out.only HO2.out HN.out), hid (HO.out.trans HO2.out HW.out), hid (fun q hq => ?_), hid (fun h => ?_)⟩
            · rcases HW2.out q hq with h | h
              · exact HW.out q h
              · exact Or.inr (by have := HO.out.size; omega)
            · rcases HW2.out bx h with h1 | h1
              · exact HN.out h1
              · have := (Array.getElem?_eq_some_iff.1 HX.out).1; omega
          case measure => simp [intOf]; omega
      · obtain rfl : k = n := by omega
        have hr : runsL (lastOf log) k log cyc = .inr (l', c') := by rw [HX0.out, ← HU.out, Nat.sub_self]; rfl
        have HR := hid hr; clear hr
        go_wp2
        go_end0
        unfold TapeTo
        rw [HR.out]
        exact ⟨rfl, vl', vc', HT.out, HO.out, HW.out⟩
end Go.Proofs.Ytmogoaceangblaa
