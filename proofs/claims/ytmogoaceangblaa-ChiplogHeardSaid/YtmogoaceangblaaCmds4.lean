/- chiplog's tape: several registers that differ. -/
import Derived.Test.YtmogoaceangblaaCmds3
namespace Go.Proofs.Ytmogoaceangblaa
open Go.RowKit

theorem and_i64 (a b : Nat) (ha : a < 65536) (hb : b < 65536) : bits .and .i64 (a : Int) (b : Int) = ((a &&& b : Nat) : Int) := by
  have hx : a &&& b < 2 ^ 16 := Nat.and_lt_two_pow _ (by omega)
  have h1 : (BitVec.ofInt 64 (a : Int)).toNat = a := by
    rw [BitVec.ofInt_natCast, BitVec.toNat_ofNat]; exact Nat.mod_eq_of_lt (by omega)
  have h2 : (BitVec.ofInt 64 (b : Int)).toNat = b := by
    rw [BitVec.ofInt_natCast, BitVec.toNat_ofNat]; exact Nat.mod_eq_of_lt (by omega)
  show IntKind.i64.wrap ((BitVec.ofInt 64 (a : Int) &&& BitVec.ofInt 64 (b : Int)).toNat : Int) = _
  rw [BitVec.toNat_and, h1, h2, IntKind.wrap_i64]
  omega
theorem bit_i64 (M k : Nat) (hM : M < 16384) : bits .and .i64 ((M : Int) / 2 ^ k) 1 = if M.testBit k then 1 else 0 := by
  have e : (M : Int) / 2 ^ k = ((M / 2 ^ k : Nat) : Int) := by simp
  have hl : M / 2 ^ k ≤ M := Nat.div_le_self _ _
  rw [e, show (1 : Int) = ((1 : Nat) : Int) from rfl, and_i64 _ 1 (by omega) (by omega), Nat.and_one_is_mod, Nat.testBit_eq_decide_div_mod_eq]
  rcases Nat.mod_two_eq_zero_or_one (M / 2 ^ k) with h | h
  · rw [h]; simp
  · rw [h]; simp
set_option maxHeartbeats 4000000 in
set_option maxRecDepth 100000 in
theorem tmanys_mask (w : World) (t : Nat) (A : Option Addr) (c : Nat) (b : List Int) (at_ : Nat) (log : List (List Int)) (cyc : List Int) (vl vc : Value) (n : Int) (lo hi : Int)
    (h : TapeV w t (.slice A b.length c) at_ log cyc vl vc) (hR : Reads w t A b) (h1 : b[at_]? = some lo) (h2 : b[at_ + 1]? = some hi) (hm : ¬ (lo + 256 * hi = 0 ∨ 16384 ≤ lo + 256 * hi)) :
    Calls Try.prog 34 #[.pointer (some ⟨t, 0, none⟩), .int .i64 n] w (TapeTo w t (.slice A b.length c) vl vc (manyL b at_ log cyc)) := by
  obtain ⟨EA, ec, rfl, hE⟩ := h.ent
  have HH := hid h; have HR := hid hR; have HV1 := hid h1; have HV2 := hid h2
  have hr1 := hR.rng lo (List.mem_of_getElem? h1)
  have hr2 := hR.rng hi (List.mem_of_getElem? h2)
  clear h hE hR h1 h2
  obtain ⟨M, hM⟩ : ∃ M : Nat, (M : Int) = lo + hi * 256 := ⟨(lo + hi * 256).toNat, by omega⟩
  have hM0 : ¬ M = 0 := by omega
  have hM1 : M < 16384 := by omega
  go_enter Try.func34, Try.ntmps34
  go_wp2_with fail
  refine (tnext_ok _ t A c b at_ log cyc _ vc lo HH.out HR.out.bytes HR.out.sep HV1.out hr1 HR.out.le).mono ?_
  rintro e w1 ⟨rfl, ht1, ho1⟩
  have HT1 := hid ht1; have HO1 := hid ho1; have HR1 := hid (HR.out.only ho1 (own_le HH.out)); clear ht1 ho1
  go_wp2_with fail
  refine (tnext_ok _ t A c b (at_ + 1) log cyc _ vc hi HT1.out HR1.out.bytes HR1.out.sep HV2.out hr2 HR.out.le).mono ?_
  rintro e w2 ⟨rfl, ht2, ho2⟩
  have HT2 := hid ht2; have HO2 : Hid (Only (Own t (.slice EA log.length ec) vc) w w2) := hid (HO1.out.trans ho2 (fun q hq => Or.inl hq)); have HR2 := hid (HR1.out.only ho2 (own_le HT1.out)); clear ht2 ho2
  have HMM := hid hM
  have hne : ((M : Int) == 0) = false := by rw [beq_eq_false_iff_ne]; omega
  have hge : decide ((16384 : Int) ≤ (M : Int)) = false := decide_eq_false (by omega)
  have hadd : lo + hi * 256 = (M : Int) := hM.symm
  clear hM
  go_wp2_with fail
  have HOP : Hid ((at_ + 2 ≤ b.length)) := hid (by have := (List.getElem?_eq_some_iff.1 HV2.out).1; omega)
  have hc2 := cell_of_cells (k := 2) HT2.out.blk rfl
  have HE : Hid (EntAt w2 EA log) := hid (by obtain ⟨EA', ec', e1, hE⟩ := HT2.out.ent; cases e1; exact hE)
  obtain ⟨wb, hwb⟩ : ∃ z, z = w2 := ⟨_, rfl⟩
  have HHB : Hid (TapeV wb t (.slice A b.length c) (at_ + 2) log cyc (.slice EA log.length ec) vc) := hid (by rw [hwb]; exact HT2.out)
  have HC2 : Hid (wb.cell? ⟨t, 2, none⟩ = some (.slice EA log.length ec)) := hid (by rw [hwb]; exact hc2)
  have HCB : Hid (∀ W, Below wb.heap.size wb W → W.cell? ⟨t, 2, none⟩ = some (.slice EA log.length ec)) := hid (fun W h => (h.cell (p := ⟨t, 2, none⟩) HHB.out.lt).trans HC2.out)
  have HEB : Hid (∀ W, Below wb.heap.size wb W → EntAt W EA log) := hid (fun W h => by rw [hwb] at h; exact HE.out.below h)
  have HPN : Hid ((icells (prev log log.length)).toArray.size = 14) := hid (by simp [icells_len, prev_len HH.out.len (Nat.le_refl _)])
  have h4 := HH.out.le4
  rw [← hwb]
  have HWB := hid hwb
  have HO2b : Hid (Only (Own t (.slice EA log.length ec) vc) w wb) := hid (by rw [hwb]; exact HO2.out)
  have HR2b : Hid (Reads wb t A b) := hid (by rw [hwb]; exact HR2.out)
  clear hwb hc2 hne hge hadd
  have HS : (fun w' : World => w'.cell? ⟨t, 2, none⟩ = some (.slice EA log.length ec)) wb.drew := HC2.out
  refine wp_region_late (S := fun w' => w'.cell? ⟨t, 2, none⟩ = some (.slice EA log.length ec)) [] (by kernel_rfl) ?_
  refine wpLate_pure (i := 0) (oi := { dst := some 22, op := Op.move (Operand.tmp 0), type := 45, pos := "chiplog.go:207", after := #[], guard := none }) (v := ?va_0) rfl (by kernel_rfl) (by kernel_rfl) (by kernel_rfl) (by first | rfl | simp) (fun _ _ _ h => h) (Or.inl ⟨by rfl, ?ha_0⟩) (fun _ => HS) ?ra_0
  case ha_0 => (intro w _; go_simp; try with_reducible rfl)
  (try simp only [Act.put, List.setIfInBounds_toArray, List.set_cons_zero, List.set_cons_succ])
  refine wpLate_pure (i := 1) (oi := { dst := some 23, op := Op.nilCheck (Operand.tmp 22), type := 0, pos := "chiplog.go:207", after := #[{ on := 0, ground := Ground.data }], guard := none }) (v := ?va_1) rfl (by kernel_rfl) (by kernel_rfl) (by kernel_rfl) (by first | rfl | simp) (fun _ _ _ h => h) (Or.inl ⟨by rfl, ?ha_1⟩) (fun _ => HS) ?ra_1
  case ha_1 => (intro w _; go_simp; try with_reducible rfl)
  (try simp only [Act.put, List.setIfInBounds_toArray, List.set_cons_zero, List.set_cons_succ])
  refine wpLate_pure (i := 2) (oi := { dst := some 24, op := Op.fieldAddr 49 (Operand.tmp 23) 2, type := 0, pos := "chiplog.go:207", after := #[{ on := 1, ground := Ground.data }], guard := none }) (v := ?va_2) rfl (by kernel_rfl) (by kernel_rfl) (by kernel_rfl) (by first | rfl | simp) (fun _ _ _ h => h) (Or.inl ⟨by rfl, ?ha_2⟩) (fun _ => HS) ?ra_2
  case ha_2 => (intro w _; go_simp; try with_reducible rfl)
  (try simp only [Act.put, List.setIfInBounds_toArray, List.set_cons_zero, List.set_cons_succ])
  refine wpLate_take (i := 3) (oi := { dst := some 25, op := Op.load 35 (Operand.tmp 24), type := 35, pos := "chiplog.go:207", after := #[{ on := 2, ground := Ground.data }], guard := none }) (v := ?va_3) rfl (by kernel_rfl) (by kernel_rfl) (by kernel_rfl) (by kernel_rfl) (by kernel_rfl) (fun _ _ _ h => h) (Or.inl ⟨by rfl, ?ha_3⟩) HS ?ra_3
  case ha_3 => (intro w hSw; (try dsimp only at hSw); go_simp; try with_reducible rfl)
  (try simp only [Act.put, List.setIfInBounds_toArray, List.set_cons_zero, List.set_cons_succ])
  refine wpLate_pure (i := 4) (oi := { dst := some 26, op := Op.move (Operand.tmp 0), type := 45, pos := "chiplog.go:207", after := #[], guard := none }) (v := ?va_4) rfl (by kernel_rfl) (by kernel_rfl) (by kernel_rfl) (by first | rfl | simp) (fun _ _ _ h => h) (Or.inl ⟨by rfl, ?ha_4⟩) (fun _ => HS) ?ra_4
  case ha_4 => (intro w _; go_simp; try with_reducible rfl)
  (try simp only [Act.put, List.setIfInBounds_toArray, List.set_cons_zero, List.set_cons_succ])
  refine wpLate_pure (i := 5) (oi := { dst := some 27, op := Op.nilCheck (Operand.tmp 26), type := 0, pos := "chiplog.go:207", after := #[{ on := 4, ground := Ground.data }], guard := none }) (v := ?va_5) rfl (by kernel_rfl) (by kernel_rfl) (by kernel_rfl) (by first | rfl | simp) (fun _ _ _ h => h) (Or.inl ⟨by rfl, ?ha_5⟩) (fun _ => HS) ?ra_5
  case ha_5 => (intro w _; go_simp; try with_reducible rfl)
  (try simp only [Act.put, List.setIfInBounds_toArray, List.set_cons_zero, List.set_cons_succ])
  refine wpLate_pure (i := 6) (oi := { dst := some 28, op := Op.fieldAddr 49 (Operand.tmp 27) 2, type := 0, pos := "chiplog.go:207", after := #[{ on := 5, ground := Ground.data }], guard := none }) (v := ?va_6) rfl (by kernel_rfl) (by kernel_rfl) (by kernel_rfl) (by first | rfl | simp) (fun _ _ _ h => h) (Or.inl ⟨by rfl, ?ha_6⟩) (fun _ => HS) ?ra_6
  case ha_6 => (intro w _; go_simp; try with_reducible rfl)
  (try simp only [Act.put, List.setIfInBounds_toArray, List.set_cons_zero, List.set_cons_succ])
  refine wpLate_take (i := 7) (oi := { dst := some 29, op := Op.load 35 (Operand.tmp 28), type := 35, pos := "chiplog.go:207", after := #[{ on := 6, ground := Ground.data }], guard := none }) (v := ?va_7) rfl (by kernel_rfl) (by kernel_rfl) (by kernel_rfl) (by kernel_rfl) (by kernel_rfl) (fun _ _ _ h => h) (Or.inl ⟨by rfl, ?ha_7⟩) HS ?ra_7
  case ha_7 => (intro w hSw; (try dsimp only at hSw); go_simp; try with_reducible rfl)
  (try simp only [Act.put, List.setIfInBounds_toArray, List.set_cons_zero, List.set_cons_succ])
  refine wpLate_pure (i := 8) (oi := { dst := some 30, op := Op.call { callee := Callee.builtin Builtin.len, args := #[Operand.tmp 29], argTypes := #[35] }, type := 3, pos := "chiplog.go:207", after := #[{ on := 7, ground := Ground.data }], guard := none }) (v := ?va_8) rfl (by kernel_rfl) (by kernel_rfl) (by kernel_rfl) (by first | rfl | simp) (fun _ _ _ h => h) (Or.inl ⟨by rfl, ?ha_8⟩) (fun _ => HS) ?ra_8
  case ha_8 => (intro w _; go_simp; try with_reducible rfl)
  (try simp only [Act.put, List.setIfInBounds_toArray, List.set_cons_zero, List.set_cons_succ])
  obtain ⟨wz, hwz⟩ : ∃ z, z = wb.drew := ⟨_, rfl⟩
  rw [← hwz]
  have HBwz : Hid (Below wb.heap.size wb wz) := hid (by rw [hwz]; exact (Below.refl _ _).drew)
  clear hwz HS
  refine wpLate_all (rs := [9, 10]) (by kernel_rfl) (by simp) ?_
  intro i hi
  simp only [List.mem_cons, List.not_mem_nil, or_false] at hi
  rcases hi with rfl | rfl
  refine wpOp_do (oi := { dst := some 31, op := Op.call { callee := Callee.value (Operand.func 15), args := #[Operand.tmp 25, Operand.tmp 30], argTypes := #[35, 3] }, type := 43, pos := "chiplog.go:207", after := #[{ on := 3, ground := Ground.data }, { on := 8, ground := Ground.data }], guard := none }) rfl (by rfl) ?_
  go_simp
  refine (before_any EA log ec log.length _ (HEB.out _ HBwz.out) (Nat.le_refl _) (by omega)).mono ?_
  rintro e wc ⟨rfl, hb_wc⟩
  have HBwc := hid (Below.step HBwz.out hb_wc); have HSwc := hid hb_wc.size; clear hb_wc
  dsimp only
  refine ⟨HCB.out _ HBwc.out, ?_⟩
  refine wpLate_all (rs := [10]) (by kernel_rfl) (by simp) ?_
  intro i hi
  simp only [List.mem_cons, List.not_mem_nil, or_false] at hi
  subst hi
  refine wpOp_do (oi := { dst := some 5, op := Op.alloc 43, type := 0, pos := "chiplog.go:207", after := #[], guard := none }) rfl (by rfl) ?_
  go_simp
  obtain ⟨wd, hw⟩ : ∃ z, z = wc.alloc (Obj.cells #[Value.int IntKind.i64 0, Value.int IntKind.i64 0, Value.int IntKind.i64 0, Value.int IntKind.i64 0, Value.int IntKind.i64 0, Value.int IntKind.i64 0, Value.int IntKind.i64 0, Value.int IntKind.i64 0, Value.int IntKind.i64 0, Value.int IntKind.i64 0, Value.int IntKind.i64 0, Value.int IntKind.i64 0, Value.int IntKind.i64 0, Value.int IntKind.i64 0] 43) := ⟨_, rfl⟩
  rw [← hw]
  have HBwd : Hid (Below wb.heap.size wb wd) := hid (by rw [hw]; exact Below.grow HBwc.out _)
  obtain ⟨bx, hbx⟩ : ∃ z, z = wc.heap.size := ⟨_, rfl⟩
  have HNEW : Hid (wd.heap[bx]? = some (.cells #[Value.int IntKind.i64 0, Value.int IntKind.i64 0, Value.int IntKind.i64 0, Value.int IntKind.i64 0, Value.int IntKind.i64 0, Value.int IntKind.i64 0, Value.int IntKind.i64 0, Value.int IntKind.i64 0, Value.int IntKind.i64 0, Value.int IntKind.i64 0, Value.int IntKind.i64 0, Value.int IntKind.i64 0, Value.int IntKind.i64 0, Value.int IntKind.i64 0] 43 (0, 0))) := hid (by rw [hw, hbx]; exact heap_alloc_new wc _)
  have HXB : Hid (wb.heap.size ≤ bx) := hid (by rw [hbx]; exact HBwc.out.size)
  rw [← hbx]
  clear hw hbx
  refine ⟨(by first | exact HCB.out _ HBwd.out | exact HCB.out _ HBwc.out), ?_⟩
  refine wpLate_all (rs := [11]) (by kernel_rfl) (by simp) ?_
  intro i hi
  simp only [List.mem_cons, List.not_mem_nil, or_false] at hi
  subst hi
  refine wpOp_do (oi := { dst := none, op := Op.store 43 (Operand.tmp 5) (Operand.tmp 31), type := 0, pos := "chiplog.go:207", after := #[{ on := 10, ground := Ground.data }, { on := 9, ground := Ground.data }, { on := 9, ground := Ground.chain }, { on := 0, ground := Ground.phase }, { on := 1, ground := Ground.phase }, { on := 2, ground := Ground.phase }, { on := 3, ground := Ground.phase }, { on := 4, ground := Ground.phase }, { on := 5, ground := Ground.phase }, { on := 6, ground := Ground.phase }, { on := 7, ground := Ground.phase }, { on := 8, ground := Ground.phase }, { on := 9, ground := Ground.phase }, { on := 10, ground := Ground.phase }], guard := none }) rfl (by rfl) ?_
  refine wp_store_row 43 _ _ rfl bx (icells (prev log log.length)).toArray (by rfl) (by rfl) 43 _ HNEW.out (by rw [HPN.out]; exact size75) (by rw [HPN.out]; rfl) (all_oneCell_toArray (icells_one _)) ?_
  obtain ⟨wf, hwf⟩ : ∃ z, z = wd.setRow bx (icells (prev log log.length)).toArray := ⟨_, rfl⟩
  have HXF : Hid (TapeRow wf bx (prev log log.length)) := hid (by rw [hwf]; exact setRow_heap wd bx _ _ 43 (0, 0) HNEW.out)
  have HBF : Hid (Below wb.heap.size wb wf) := hid (by rw [hwf]; exact Below.row HBwd.out HXB.out _)
  rw [← hwf]
  clear hwf HNEW
  simp only [Act.put]
  refine ⟨fun _ => HCB.out _ HBF.out, ?_⟩
  refine wpLate_done (by kernel_rfl) ?_ _
  rotate_left
  refine wpOp_do (oi := { dst := some 5, op := Op.alloc 43, type := 0, pos := "chiplog.go:207", after := #[], guard := none }) rfl (by rfl) ?_
  go_simp
  obtain ⟨wc, hw⟩ : ∃ z, z = wz.alloc (Obj.cells #[Value.int IntKind.i64 0, Value.int IntKind.i64 0, Value.int IntKind.i64 0, Value.int IntKind.i64 0, Value.int IntKind.i64 0, Value.int IntKind.i64 0, Value.int IntKind.i64 0, Value.int IntKind.i64 0, Value.int IntKind.i64 0, Value.int IntKind.i64 0, Value.int IntKind.i64 0, Value.int IntKind.i64 0, Value.int IntKind.i64 0, Value.int IntKind.i64 0] 43) := ⟨_, rfl⟩
  rw [← hw]
  have HBwc : Hid (Below wb.heap.size wb wc) := hid (by rw [hw]; exact Below.grow HBwz.out _)
  obtain ⟨bx, hbx⟩ : ∃ z, z = wz.heap.size := ⟨_, rfl⟩
  have HNEW : Hid (wc.heap[bx]? = some (.cells #[Value.int IntKind.i64 0, Value.int IntKind.i64 0, Value.int IntKind.i64 0, Value.int IntKind.i64 0, Value.int IntKind.i64 0, Value.int IntKind.i64 0, Value.int IntKind.i64 0, Value.int IntKind.i64 0, Value.int IntKind.i64 0, Value.int IntKind.i64 0, Value.int IntKind.i64 0, Value.int IntKind.i64 0, Value.int IntKind.i64 0, Value.int IntKind.i64 0] 43 (0, 0))) := hid (by rw [hw, hbx]; exact heap_alloc_new wz _)
  have HXB : Hid (wb.heap.size ≤ bx) := hid (by rw [hbx]; exact HBwz.out.size)
  rw [← hbx]
  clear hw hbx
  refine ⟨(by first | exact HCB.out _ HBwc.out | exact HCB.out _ HBwz.out), ?_⟩
  refine wpLate_all (rs := [9]) (by kernel_rfl) (by simp) ?_
  intro i hi
  simp only [List.mem_cons, List.not_mem_nil, or_false] at hi
  subst hi
  refine wpOp_do (oi := { dst := some 31, op := Op.call { callee := Callee.value (Operand.func 15), args := #[Operand.tmp 25, Operand.tmp 30], argTypes := #[35, 3] }, type := 43, pos := "chiplog.go:207", after := #[{ on := 3, ground := Ground.data }, { on := 8, ground := Ground.data }], guard := none }) rfl (by rfl) ?_
  go_simp
  refine (before_any EA log ec log.length _ (HEB.out _ HBwc.out) (Nat.le_refl _) (by omega)).mono ?_
  rintro e wd ⟨rfl, hb_wd⟩
  have HBwd := hid (Below.step HBwc.out hb_wd); have HNEW2 := hid ((hb_wd.block bx (Array.getElem?_eq_some_iff.1 HNEW.out).1).trans HNEW.out); clear hb_wd
  dsimp only
  refine ⟨HCB.out _ HBwd.out, ?_⟩
  refine wpLate_all (rs := [11]) (by kernel_rfl) (by simp) ?_
  intro i hi
  simp only [List.mem_cons, List.not_mem_nil, or_false] at hi
  subst hi
  refine wpOp_do (oi := { dst := none, op := Op.store 43 (Operand.tmp 5) (Operand.tmp 31), type := 0, pos := "chiplog.go:207", after := #[{ on := 10, ground := Ground.data }, { on := 9, ground := Ground.data }, { on := 9, ground := Ground.chain }, { on := 0, ground := Ground.phase }, { on := 1, ground := Ground.phase }, { on := 2, ground := Ground.phase }, { on := 3, ground := Ground.phase }, { on := 4, ground := Ground.phase }, { on := 5, ground := Ground.phase }, { on := 6, ground := Ground.phase }, { on := 7, ground := Ground.phase }, { on := 8, ground := Ground.phase }, { on := 9, ground := Ground.phase }, { on := 10, ground := Ground.phase }], guard := none }) rfl (by rfl) ?_
  refine wp_store_row 43 _ _ rfl bx (icells (prev log log.length)).toArray (by rfl) (by rfl) 43 _ HNEW2.out (by rw [HPN.out]; exact size75) (by rw [HPN.out]; rfl) (all_oneCell_toArray (icells_one _)) ?_
  obtain ⟨wf, hwf⟩ : ∃ z, z = wd.setRow bx (icells (prev log log.length)).toArray := ⟨_, rfl⟩
  have HXF : Hid (TapeRow wf bx (prev log log.length)) := hid (by rw [hwf]; exact setRow_heap wd bx _ _ 43 (0, 0) HNEW2.out)
  have HBF : Hid (Below wb.heap.size wb wf) := hid (by rw [hwf]; exact Below.row HBwd.out HXB.out _)
  rw [← hwf]
  clear hwf HNEW
  simp only [Act.put]
  refine ⟨fun _ => HCB.out _ HBF.out, ?_⟩
  refine wpLate_done (by kernel_rfl) ?_ _
  all_goals
    obtain ⟨x, hx⟩ : ∃ x, x = prev log log.length := ⟨_, rfl⟩
    have HXL : Hid (x.length = 14) := hid (by rw [hx]; exact prev_len HH.out.len (Nat.le_refl _))
    rw [← hx] at HXF ⊢
    have HX0 : Hid (lastOf log = x) := hid hx.symm
    have HOB : Hid (Only (Own t (.slice EA log.length ec) vc) wb wf) := hid (Only.ofBelow HBF.out)
    have HON : Hid (Only (Own t (.slice EA log.length ec) vc) w wf) := hid (HO2b.out.trans HOB.out (fun q hq => Or.inl hq))
    have HTF : Hid (TapeV wf t (.slice A b.length c) (at_ + 2) log cyc (.slice EA log.length ec) vc) := hid (HHB.out.below HBF.out)
    have HNB : Hid (¬ Own t (.slice EA log.length ec) vc bx) := hid (fun h => by have h1 := (HHB.out.own_ge bx h).2; have h2 := HXB.out; omega)
    have HBW : Hid (w.heap.size ≤ bx) := hid (by have h1 := HXB.out; have h2 := HO2b.out.size; omega)
    have HRF : Hid (Reads wf t A b) := hid (HR2b.out.only HOB.out (own_le HHB.out))
    have HMN : Hid (manyL b at_ log cyc = match someL b M 14 (at_ + 2) x 0 with | .inl e => .inl e | .inr q => putS q.1 log cyc q.2.1 (20 + 6 * (q.2.2 : Int))) := hid (by
      have e1 : (lo + 256 * hi).toNat = M := by have := HMM.out; omega
      unfold manyL
      rw [HV1.out, HV2.out]
      simp only
      rw [if_neg hm, e1, HX0.out]
      cases someL b M 14 (at_ + 2) x 0 with
      | inl e => rfl
      | inr q =>
        obtain ⟨a, y, n⟩ := q
        simp only
        unfold putS
        cases putL log cyc y (20 + 6 * (n : Int)) with
        | inl e => rfl
        | inr q => rfl)
    clear hx
    go_wp2_with fail
    go_loopw [6, 32] (fun v6 i wr => ∃ (k a' n' : Nat) (y : List Int), k ≤ 14 ∧ i = .int .i64 k ∧ v6 = .int .i64 n' ∧ n' ≤ k ∧ a' ≤ b.length ∧ Hid (someL b M (14 - k) a' y n' = someL b M 14 (at_ + 2) x 0) ∧ Hid (TapeV wr t (.slice A b.length c) a' log cyc (.slice EA log.length ec) vc) ∧ Hid (TapeRow wr bx y) ∧ Hid (y.length = 14) ∧ Hid (Only (Own t (.slice EA log.length ec) vc) w wr) ∧ Hid (Reads wr t A b)) (fun _ i _ => 14 - (intOf i).toNat)
    case atStart => exact ⟨0, at_ + 2, 0, x, by omega, rfl, rfl, by omega, HOP.out, hid rfl, HTF, HXF, HXL, HON, HRF⟩
    case round =>
      obtain ⟨k, a', n', y, hk, rfl, rfl, hnk, hab, HU, HT, HX, HYL, HO, HRR⟩ := hrel
      by_cases hlt : k < 14
      · have HSU : Hid (someL b M 14 (at_ + 2) x 0 = if M.testBit k then (match writeL b a' y k with | .inl e => .inl e | .inr q => someL b M (14 - (k + 1)) q.1 q.2 (n' + 1)) else someL b M (14 - (k + 1)) a' y n') := hid (by
          rw [← HU.out, show 14 - k = (13 - k) + 1 by omega, someL, show 13 - (13 - k) = k by omega, show 14 - (k + 1) = 13 - k by omega]
          cases writeL b a' y k with
          | inl e => rfl
          | inr q => rfl)
        have hbit := bit_i64 M k hM1
        have hk0 : (0 : Int) ≤ (k : Int) := by omega
        have hk4 : (k : Int) < 14 := by omega
        cases htb : M.testBit k with
        | true =>
          rw [htb] at hbit
          simp only [if_true] at hbit
          have HTB := hid htb; clear htb
          go_wp2_with fail
          refine (twrite_any _ t A c b a' log cyc _ vc bx y k HT.out HRR.out hab HX.out HYL.out hlt HNB.out).mono ?_
          intro e w4 hw
          cases hp : writeL b a' y k with
          | inl er =>
            rw [hp] at hw
            obtain ⟨rfl, ho⟩ := hw
            refine ⟨rfl, ?_⟩
            have hr : manyL b at_ log cyc = .inl er := by rw [HMN.out, HSU.out, HTB.out, hp]; rfl
            unfold TapeTo
            rw [hr]
            exact ⟨rfl, HO.out.trans ho (fun q hq => by rcases hq with h | h; exact Or.inl h; exact Or.inr (h ▸ HBW.out))⟩
          | inr p =>
            rw [hp] at hw
            obtain ⟨rfl, ht2, hx2, ho⟩ := hw
            have hl2 := writeL_len hp
            have HP := hid hp; have HT4 := hid ht2; have HX4 := hid hx2
            have HO4 : Hid (Only (Own t (.slice EA log.length ec) vc) w w4) := hid (HO.out.trans ho (fun q hq => by rcases hq with h | h; exact Or.inl h; exact Or.inr (h ▸ HBW.out)))
            have HL4 : Hid (p.2.length = 14) := hid (by rw [hl2.1]; exact HYL.out)
            have HA4 : Hid (p.1 ≤ b.length) := hid (by omega)
            have HR4 := hid (HRR.out.only ho (fun q hq => by rcases hq with h | h; exact own_le HT.out q h; exact h ▸ (by have h1 := HBW.out; have h2 := HH.out.lt; omega)))
            clear hp ht2 hx2 ho hl2 hbit
            go_wp2
            go_roundw
            case rel => exact ⟨k + 1, p.1, n' + 1, p.2, by omega, by go_num, by go_num, by omega, HA4.out, hid (by rw [HSU.out, HTB.out, HP.out]; rfl), HT4, HX4, HL4, HO4, HR4⟩
            case measure => simp [intOf]; omega
        | false =>
          rw [htb] at hbit
          simp only [Bool.false_eq_true, if_false] at hbit
          have HTB := hid htb; clear htb
          go_wp2
          go_roundw
          case rel => exact ⟨k + 1, a', n', y, by omega, by go_num, rfl, by omega, hab, hid (by rw [HSU.out, HTB.out]; rfl), HT, HX, HYL, HO, HRR⟩
          case measure => simp [intOf]; omega
      · obtain rfl : k = 14 := by omega
        have HSI : Hid (manyL b at_ log cyc = putS a' log cyc y (20 + 6 * (n' : Int))) := hid (by rw [HMN.out, ← HU.out]; rfl)
        have HRX : Hid (wr.rangeAt bx 0 (icells y)) := hid (fun j v hj => by rw [Nat.zero_add]; exact cell_of_cells HX.out (by simpa using hj))
        have HXS : Hid ((Try.prog.info? 43).map (·.size) = some (icells y).length) := hid (by rw [icells_len, HYL.out]; exact size75)
        go_wp2_with (first | (refine wpList_load_mid rfl 43 _ rfl bx 0 rfl (icells y) _ HRX.out Try.underlying43 rfl HXS.out ?_))
        refine (tput_any _ t _ a' log cyc _ vc y (20 + 6 * (n' : Int)) HT.out HYL.out).mono ?_
        intro e w5 hto
        have HTO := hid (hto.from HO.out)
        cases hq : putS a' log cyc y (20 + 6 * (n' : Int)) with
        | inl er =>
          rw [hq] at hto
          obtain ⟨rfl, _⟩ := hto
          refine ⟨rfl, ?_⟩
          rw [HSI.out]; exact HTO.out
        | inr s =>
          rw [hq] at hto
          obtain ⟨rfl, _⟩ := hto
          have HQ := hid hq; clear hq
          go_wp2
          go_end0
          rw [HSI.out]; exact HTO.out

theorem TapeTo.inl {w w' : World} {t : Nat} {sb vl vc : Value} {r : Rd St} {er : Int} (hr : r = .inl er) (h : Only (Own t vl vc) w w') : TapeTo w t sb vl vc r (.panicked (errno er)) w' := by
  subst hr; exact ⟨rfl, h⟩
set_option maxHeartbeats 4000000 in
set_option maxRecDepth 100000 in
theorem tmanys_any (w : World) (t : Nat) (A : Option Addr) (c : Nat) (b : List Int) (at_ : Nat) (log : List (List Int)) (cyc : List Int) (vl vc : Value) (n : Int)
    (h : TapeV w t (.slice A b.length c) at_ log cyc vl vc) (hR : Reads w t A b) (hat : at_ ≤ b.length) :
    Calls Try.prog 34 #[.pointer (some ⟨t, 0, none⟩), .int .i64 n] w (TapeTo w t (.slice A b.length c) vl vc (manyL b at_ log cyc)) := by
  cases h1 : b[at_]? with
  | none =>
    have hea : at_ = b.length := by have := List.getElem?_eq_none_iff.1 h1; omega
    have hm : manyL b at_ log cyc = .inl 12 := by unfold manyL; rw [h1]
    subst hea
    have HH := hid h; have HM := hid hm; clear h hR h1 hm
    go_enter Try.func34, Try.ntmps34
    go_wp2_with fail
    refine (tnext_end _ t A c b log cyc vl vc HH.out).mono ?_
    rintro e w1 ⟨rfl, ho⟩
    exact ⟨rfl, TapeTo.inl HM.out ho⟩
  | some lo =>
    have hl1 := (List.getElem?_eq_some_iff.1 h1).1
    have hr1 := hR.rng lo (List.mem_of_getElem? h1)
    cases h2 : b[at_ + 1]? with
    | none =>
      have hea : at_ + 1 = b.length := by have := List.getElem?_eq_none_iff.1 h2; omega
      have hm : manyL b at_ log cyc = .inl 12 := by unfold manyL; rw [h1, h2]
      have HH := hid h; have HM := hid hm; have HR := hid hR; have HV1 := hid h1; have HEA := hid hea; clear h hR h1 h2 hm hea
      go_enter Try.func34, Try.ntmps34
      go_wp2_with fail
      refine (tnext_ok _ t A c b at_ log cyc vl vc lo HH.out HR.out.bytes HR.out.sep HV1.out hr1 HR.out.le).mono ?_
      rintro e w1 ⟨rfl, ht1, ho1⟩
      have HT1 : Hid (TapeV w1 t (.slice A b.length c) b.length log cyc vl vc) := hid (by rw [HEA.out] at ht1; exact ht1)
      have HO1 := hid ho1; clear ht1 ho1
      go_wp2_with fail
      refine (tnext_end _ t A c b log cyc vl vc HT1.out).mono ?_
      rintro e w2 ⟨rfl, ho⟩
      exact ⟨rfl, TapeTo.inl HM.out (HO1.out.trans ho (fun q hq => Or.inl hq))⟩
    | some hi =>
      by_cases hm : lo + 256 * hi = 0 ∨ 16384 ≤ lo + 256 * hi
      · have hM : manyL b at_ log cyc = .inl 9 := by unfold manyL; rw [h1, h2]; simp only; rw [if_pos hm]
        have hr2 := hR.rng hi (List.mem_of_getElem? h2)
        have HH := hid h; have HM := hid hM; have HR := hid hR; have HV1 := hid h1; have HV2 := hid h2; have HMM := hid hm; clear h hR h1 h2 hM
        have hgo : ∀ K : Prop, (lo + hi * 256 = 0 → K) → (((lo + hi * 256 : Int) == 0) = false → decide ((16384 : Int) ≤ lo + hi * 256) = true → K) → K := fun K k1 k2 => by
          by_cases h0 : lo + hi * 256 = 0
          · exact k1 h0
          · exact k2 (by rw [beq_eq_false_iff_ne]; exact h0) (decide_eq_true (by rcases hm with h | h <;> omega))
        clear hm
        go_enter Try.func34, Try.ntmps34
        go_wp2_with fail
        refine (tnext_ok _ t A c b at_ log cyc vl vc lo HH.out HR.out.bytes HR.out.sep HV1.out hr1 HR.out.le).mono ?_
        rintro e w1 ⟨rfl, ht1, ho1⟩
        have HT1 := hid ht1; have HO1 := hid ho1; have HR1 := hid (HR.out.only ho1 (own_le HH.out)); clear ht1 ho1
        go_wp2_with fail
        refine (tnext_ok _ t A c b (at_ + 1) log cyc vl vc hi HT1.out HR1.out.bytes HR1.out.sep HV2.out hr2 HR1.out.le).mono ?_
        rintro e w2 ⟨rfl, ht2, ho2⟩
        have HO2 : Hid (Only (Own t vl vc) w w2) := hid (HO1.out.trans ho2 (fun q hq => Or.inl hq)); clear ht2 ho2
        refine hgo _ (fun h0 => ?_) (fun h0 h1 => ?_)
        · have hlo : lo = 0 := by omega
          have hhi : hi = 0 := by omega
          subst hlo hhi
          clear h0 hgo
          go_wp2
          exact ⟨rfl, TapeTo.inl HM.out HO2.out⟩
        · clear hgo
          go_wp2
          exact ⟨rfl, TapeTo.inl HM.out HO2.out⟩
      · exact tmanys_mask w t A c b at_ log cyc vl vc n lo hi h hR h1 h2 hm
end Go.Proofs.Ytmogoaceangblaa
