/- chiplog's tape: one register that differs. -/
import Derived.Test.YtmogoaceangblaaCmds2
namespace Go.Proofs.Ytmogoaceangblaa
open Go.RowKit

def singleS (b : List Int) (at_ : Nat) (log : List (List Int)) (cyc : List Int) (r : Nat) : Rd St :=
  match writeL b at_ (lastOf log) r with
  | .inl e => .inl e
  | .inr p => putS p.1 log cyc p.2 12
theorem TapeTo.from {w w2 w3 : World} {t : Nat} {sb vl vc : Value} {r : Rd St} {e : Ending} (h : TapeTo w2 t sb vl vc r e w3) (k : Only (Own t vl vc) w w2) : TapeTo w t sb vl vc r e w3 := by
  cases r with
  | inl er => exact ⟨h.1, k.trans h.2 (fun q hq => Or.inl hq)⟩
  | inr s =>
    obtain ⟨he, vl', vc', h1, h2, h3⟩ := h
    exact ⟨he, vl', vc', h1, k.trans h2 (fun q hq => Or.inl hq), fun q hq => by
      rcases h3 q hq with h4 | h4
      · exact Or.inl h4
      · exact Or.inr (Nat.le_trans k.size h4)⟩
theorem writeL_len {b : List Int} {at_ r : Nat} {x : List Int} {p : Nat × List Int} (h : writeL b at_ x r = .inr p) : p.2.length = x.length ∧ p.1 = at_ + 1 ∧ at_ < b.length := by
  unfold writeL at h
  cases hv : b[at_]? with
  | none => rw [hv] at h; cases h
  | some v =>
    rw [hv] at h
    simp only at h
    split at h
    · cases h
    · cases h; exact ⟨by simp, rfl, (List.getElem?_eq_some_iff.1 hv).1⟩
set_option maxHeartbeats 4000000 in
set_option maxRecDepth 100000 in
theorem tsingles_no (w : World) (t : Nat) (c : Nat) (hc : 142 ≤ c) (O : Nat → Prop) :
    Calls Try.prog 33 #[.pointer (some ⟨t, 0, none⟩), .int .i64 c] w fun e w' => e = .panicked (errno 9) ∧ Only O w w' := by
  have hd : decide ((142 : Int) ≤ (c : Int)) = true := decide_eq_true (by omega)
  go_enter Try.func33, Try.ntmps33
  go_wp2
  exact ⟨rfl, rfl, Only.refl _ _⟩
set_option maxHeartbeats 4000000 in
set_option maxRecDepth 100000 in
theorem tsingles_any (w : World) (t : Nat) (A : Option Addr) (c : Nat) (b : List Int) (at_ : Nat) (log : List (List Int)) (cyc : List Int) (vl vc : Value) (r : Nat)
    (h : TapeV w t (.slice A b.length c) at_ log cyc vl vc) (hR : Reads w t A b) (hat : at_ ≤ b.length) (hr : r < 14) :
    Calls Try.prog 33 #[.pointer (some ⟨t, 0, none⟩), .int .i64 (128 + (r : Int))] w (TapeTo w t (.slice A b.length c) vl vc (singleS b at_ log cyc r)) := by
  obtain ⟨EA, ec, rfl, hE⟩ := h.ent
  have hc2 := cell_of_cells (k := 2) h.blk rfl
  have HH := hid h; have HE := hid hE; have HR := hid hR
  clear h hE hR
  have hd : decide ((142 : Int) ≤ 128 + (r : Int)) = false := decide_eq_false (by omega)
  go_enter Try.func33, Try.ntmps33
  go_wp2_with fail
  obtain ⟨wb, hwb⟩ : ∃ z, z = w := ⟨_, rfl⟩
  have HHB : Hid (TapeV wb t (.slice A b.length c) at_ log cyc (.slice EA log.length ec) vc) := hid (by rw [hwb]; exact HH.out)
  have HC2 : Hid (wb.cell? ⟨t, 2, none⟩ = some (.slice EA log.length ec)) := hid (by rw [hwb]; exact hc2)
  have HCB : Hid (∀ W, Below wb.heap.size wb W → W.cell? ⟨t, 2, none⟩ = some (.slice EA log.length ec)) := hid (fun W h => (h.cell (p := ⟨t, 2, none⟩) HHB.out.lt).trans HC2.out)
  have HEB : Hid (∀ W, Below wb.heap.size wb W → EntAt W EA log) := hid (fun W h => by rw [hwb] at h; exact HE.out.below h)
  have HPN : Hid ((icells (prev log log.length)).toArray.size = 14) := hid (by simp [icells_len, prev_len HH.out.len (Nat.le_refl _)])
  have h4 := HH.out.le4
  rw [← hwb]
  have HWB := hid hwb
  clear hwb hc2
  have HS : (fun w' : World => w'.cell? ⟨t, 2, none⟩ = some (.slice EA log.length ec)) wb.drew := HC2.out
  refine wp_region_late (S := fun w' => w'.cell? ⟨t, 2, none⟩ = some (.slice EA log.length ec)) [] (by kernel_rfl) ?_
  refine wpLate_pure (i := 0) (oi := { dst := some 8, op := Op.move (Operand.tmp 0), type := 45, pos := "chiplog.go:196", after := #[], guard := none }) (v := ?va_0) rfl (by kernel_rfl) (by kernel_rfl) (by kernel_rfl) (by first | rfl | simp) (fun _ _ _ h => h) (Or.inl ⟨by rfl, ?ha_0⟩) (fun _ => HS) ?ra_0
  case ha_0 => (intro w _; go_simp; try with_reducible rfl)
  (try simp only [Act.put, List.setIfInBounds_toArray, List.set_cons_zero, List.set_cons_succ])
  refine wpLate_pure (i := 1) (oi := { dst := some 9, op := Op.nilCheck (Operand.tmp 8), type := 0, pos := "chiplog.go:196", after := #[{ on := 0, ground := Ground.data }], guard := none }) (v := ?va_1) rfl (by kernel_rfl) (by kernel_rfl) (by kernel_rfl) (by first | rfl | simp) (fun _ _ _ h => h) (Or.inl ⟨by rfl, ?ha_1⟩) (fun _ => HS) ?ra_1
  case ha_1 => (intro w _; go_simp; try with_reducible rfl)
  (try simp only [Act.put, List.setIfInBounds_toArray, List.set_cons_zero, List.set_cons_succ])
  refine wpLate_pure (i := 2) (oi := { dst := some 10, op := Op.fieldAddr 49 (Operand.tmp 9) 2, type := 0, pos := "chiplog.go:196", after := #[{ on := 1, ground := Ground.data }], guard := none }) (v := ?va_2) rfl (by kernel_rfl) (by kernel_rfl) (by kernel_rfl) (by first | rfl | simp) (fun _ _ _ h => h) (Or.inl ⟨by rfl, ?ha_2⟩) (fun _ => HS) ?ra_2
  case ha_2 => (intro w _; go_simp; try with_reducible rfl)
  (try simp only [Act.put, List.setIfInBounds_toArray, List.set_cons_zero, List.set_cons_succ])
  refine wpLate_take (i := 3) (oi := { dst := some 11, op := Op.load 35 (Operand.tmp 10), type := 35, pos := "chiplog.go:196", after := #[{ on := 2, ground := Ground.data }], guard := none }) (v := ?va_3) rfl (by kernel_rfl) (by kernel_rfl) (by kernel_rfl) (by kernel_rfl) (by kernel_rfl) (fun _ _ _ h => h) (Or.inl ⟨by rfl, ?ha_3⟩) HS ?ra_3
  case ha_3 => (intro w hSw; (try dsimp only at hSw); go_simp; try with_reducible rfl)
  (try simp only [Act.put, List.setIfInBounds_toArray, List.set_cons_zero, List.set_cons_succ])
  refine wpLate_pure (i := 4) (oi := { dst := some 12, op := Op.move (Operand.tmp 0), type := 45, pos := "chiplog.go:196", after := #[], guard := none }) (v := ?va_4) rfl (by kernel_rfl) (by kernel_rfl) (by kernel_rfl) (by first | rfl | simp) (fun _ _ _ h => h) (Or.inl ⟨by rfl, ?ha_4⟩) (fun _ => HS) ?ra_4
  case ha_4 => (intro w _; go_simp; try with_reducible rfl)
  (try simp only [Act.put, List.setIfInBounds_toArray, List.set_cons_zero, List.set_cons_succ])
  refine wpLate_pure (i := 5) (oi := { dst := some 13, op := Op.nilCheck (Operand.tmp 12), type := 0, pos := "chiplog.go:196", after := #[{ on := 4, ground := Ground.data }], guard := none }) (v := ?va_5) rfl (by kernel_rfl) (by kernel_rfl) (by kernel_rfl) (by first | rfl | simp) (fun _ _ _ h => h) (Or.inl ⟨by rfl, ?ha_5⟩) (fun _ => HS) ?ra_5
  case ha_5 => (intro w _; go_simp; try with_reducible rfl)
  (try simp only [Act.put, List.setIfInBounds_toArray, List.set_cons_zero, List.set_cons_succ])
  refine wpLate_pure (i := 6) (oi := { dst := some 14, op := Op.fieldAddr 49 (Operand.tmp 13) 2, type := 0, pos := "chiplog.go:196", after := #[{ on := 5, ground := Ground.data }], guard := none }) (v := ?va_6) rfl (by kernel_rfl) (by kernel_rfl) (by kernel_rfl) (by first | rfl | simp) (fun _ _ _ h => h) (Or.inl ⟨by rfl, ?ha_6⟩) (fun _ => HS) ?ra_6
  case ha_6 => (intro w _; go_simp; try with_reducible rfl)
  (try simp only [Act.put, List.setIfInBounds_toArray, List.set_cons_zero, List.set_cons_succ])
  refine wpLate_take (i := 7) (oi := { dst := some 15, op := Op.load 35 (Operand.tmp 14), type := 35, pos := "chiplog.go:196", after := #[{ on := 6, ground := Ground.data }], guard := none }) (v := ?va_7) rfl (by kernel_rfl) (by kernel_rfl) (by kernel_rfl) (by kernel_rfl) (by kernel_rfl) (fun _ _ _ h => h) (Or.inl ⟨by rfl, ?ha_7⟩) HS ?ra_7
  case ha_7 => (intro w hSw; (try dsimp only at hSw); go_simp; try with_reducible rfl)
  (try simp only [Act.put, List.setIfInBounds_toArray, List.set_cons_zero, List.set_cons_succ])
  refine wpLate_pure (i := 8) (oi := { dst := some 16, op := Op.call { callee := Callee.builtin Builtin.len, args := #[Operand.tmp 15], argTypes := #[35] }, type := 3, pos := "chiplog.go:196", after := #[{ on := 7, ground := Ground.data }], guard := none }) (v := ?va_8) rfl (by kernel_rfl) (by kernel_rfl) (by kernel_rfl) (by first | rfl | simp) (fun _ _ _ h => h) (Or.inl ⟨by rfl, ?ha_8⟩) (fun _ => HS) ?ra_8
  case ha_8 => (intro w _; go_simp; try with_reducible rfl)
  (try simp only [Act.put, List.setIfInBounds_toArray, List.set_cons_zero, List.set_cons_succ])
  obtain ⟨wz, hwz⟩ : ∃ z, z = wb.drew := ⟨_, rfl⟩
  rw [← hwz]
  have HBwz : Hid (Below wb.heap.size wb wz) := hid (by rw [hwz]; exact (Below.refl _ _).drew)
  clear hwz HS
  refine wpLate_all (rs := [9, 10]) (by kernel_rfl) (by simp) ?_
  intro i hi
  simp only [List.mem_cons, List.not_mem_nil, or_false] at hi
  rcases hi with rfl | rfl
  refine wpOp_do (oi := { dst := some 17, op := Op.call { callee := Callee.value (Operand.func 15), args := #[Operand.tmp 11, Operand.tmp 16], argTypes := #[35, 3] }, type := 43, pos := "chiplog.go:196", after := #[{ on := 3, ground := Ground.data }, { on := 8, ground := Ground.data }], guard := none }) rfl (by rfl) ?_
  go_simp
  refine (before_any EA log ec log.length _ (HEB.out _ HBwz.out) (Nat.le_refl _) (by omega)).mono ?_
  rintro e wc ⟨rfl, hb_wc⟩
  have HBwc := hid (Below.step HBwz.out hb_wc); have HSwc := hid hb_wc.size; clear hb_wc
  dsimp only
  refine ⟨HCB.out _ HBwc.out, ?_⟩
  refine wpLate_all (rs := [10]) (by kernel_rfl) (by simp) ?_
  intro i hi
  simp only [List.mem_cons, List.not_mem_nil, or_false] at hi
  subst hi
  refine wpOp_do (oi := { dst := some 4, op := Op.alloc 43, type := 0, pos := "chiplog.go:196", after := #[], guard := none }) rfl (by rfl) ?_
  go_simp
  obtain ⟨wd, hw⟩ : ∃ z, z = wc.alloc (Obj.cells #[Value.int IntKind.i64 0, Value.int IntKind.i64 0, Value.int IntKind.i64 0, Value.int IntKind.i64 0, Value.int IntKind.i64 0, Value.int IntKind.i64 0, Value.int IntKind.i64 0, Value.int IntKind.i64 0, Value.int IntKind.i64 0, Value.int IntKind.i64 0, Value.int IntKind.i64 0, Value.int IntKind.i64 0, Value.int IntKind.i64 0, Value.int IntKind.i64 0] 43) := ⟨_, rfl⟩
  rw [← hw]
  have HBwd : Hid (Below wb.heap.size wb wd) := hid (by rw [hw]; exact Below.grow HBwc.out _)
  obtain ⟨bx, hbx⟩ : ∃ z, z = wc.heap.size := ⟨_, rfl⟩
  have HNEW : Hid (wd.heap[bx]? = some (.cells #[Value.int IntKind.i64 0, Value.int IntKind.i64 0, Value.int IntKind.i64 0, Value.int IntKind.i64 0, Value.int IntKind.i64 0, Value.int IntKind.i64 0, Value.int IntKind.i64 0, Value.int IntKind.i64 0, Value.int IntKind.i64 0, Value.int IntKind.i64 0, Value.int IntKind.i64 0, Value.int IntKind.i64 0, Value.int IntKind.i64 0, Value.int IntKind.i64 0] 43 (0, 0))) := hid (by rw [hw, hbx]; exact heap_alloc_new wc _)
  have HXB : Hid (wb.heap.size ≤ bx) := hid (by rw [hbx]; exact HBwc.out.size)
  rw [← hbx]
  clear hw hbx
  refine ⟨(by first | exact HCB.out _ HBwd.out | exact HCB.out _ HBwc.out), ?_⟩
  refine wpLate_all (rs := [11]) (by kernel_rfl) (by simp) ?_
  intro i hi
  simp only [List.mem_cons, List.not_mem_nil, or_false] at hi
  subst hi
  refine wpOp_do (oi := { dst := none, op := Op.store 43 (Operand.tmp 4) (Operand.tmp 17), type := 0, pos := "chiplog.go:196", after := #[{ on := 10, ground := Ground.data }, { on := 9, ground := Ground.data }, { on := 9, ground := Ground.chain }, { on := 0, ground := Ground.phase }, { on := 1, ground := Ground.phase }, { on := 2, ground := Ground.phase }, { on := 3, ground := Ground.phase }, { on := 4, ground := Ground.phase }, { on := 5, ground := Ground.phase }, { on := 6, ground := Ground.phase }, { on := 7, ground := Ground.phase }, { on := 8, ground := Ground.phase }, { on := 9, ground := Ground.phase }, { on := 10, ground := Ground.phase }], guard := none }) rfl (by rfl) ?_
  refine wp_store_row 43 _ _ rfl bx (icells (prev log log.length)).toArray (by rfl) (by rfl) 43 _ HNEW.out (by rw [HPN.out]; exact size75) (by rw [HPN.out]; rfl) (all_oneCell_toArray (icells_one _)) ?_
  obtain ⟨wf, hwf⟩ : ∃ z, z = wd.setRow bx (icells (prev log log.length)).toArray := ⟨_, rfl⟩
  have HXF : Hid (TapeRow wf bx (prev log log.length)) := hid (by rw [hwf]; exact setRow_heap wd bx _ _ 43 (0, 0) HNEW.out)
  have HBF : Hid (Below wb.heap.size wb wf) := hid (by rw [hwf]; exact Below.row HBwd.out HXB.out _)
  rw [← hwf]
  clear hwf HNEW
  simp only [Act.put]
  refine ⟨fun _ => HCB.out _ HBF.out, ?_⟩
  refine wpLate_done (by kernel_rfl) ?_ _
  rotate_left
  refine wpOp_do (oi := { dst := some 4, op := Op.alloc 43, type := 0, pos := "chiplog.go:196", after := #[], guard := none }) rfl (by rfl) ?_
  go_simp
  obtain ⟨wc, hw⟩ : ∃ z, z = wz.alloc (Obj.cells #[Value.int IntKind.i64 0, Value.int IntKind.i64 0, Value.int IntKind.i64 0, Value.int IntKind.i64 0, Value.int IntKind.i64 0, Value.int IntKind.i64 0, Value.int IntKind.i64 0, Value.int IntKind.i64 0, Value.int IntKind.i64 0, Value.int IntKind.i64 0, Value.int IntKind.i64 0, Value.int IntKind.i64 0, Value.int IntKind.i64 0, Value.int IntKind.i64 0] 43) := ⟨_, rfl⟩
  rw [← hw]
  have HBwc : Hid (Below wb.heap.size wb wc) := hid (by rw [hw]; exact Below.grow HBwz.out _)
  obtain ⟨bx, hbx⟩ : ∃ z, z = wz.heap.size := ⟨_, rfl⟩
  have HNEW : Hid (wc.heap[bx]? = some (.cells #[Value.int IntKind.i64 0, Value.int IntKind.i64 0, Value.int IntKind.i64 0, Value.int IntKind.i64 0, Value.int IntKind.i64 0, Value.int IntKind.i64 0, Value.int IntKind.i64 0, Value.int IntKind.i64 0, Value.int IntKind.i64 0, Value.int IntKind.i64 0, Value.int IntKind.i64 0, Value.int IntKind.i64 0, Value.int IntKind.i64 0, Value.int IntKind.i64 0] 43 (0, 0))) := hid (by rw [hw, hbx]; exact heap_alloc_new wz _)
  have HXB : Hid (wb.heap.size ≤ bx) := hid (by rw [hbx]; exact HBwz.out.size)
  rw [← hbx]
  clear hw hbx
  refine ⟨(by first | exact HCB.out _ HBwc.out | exact HCB.out _ HBwz.out), ?_⟩
  refine wpLate_all (rs := [9]) (by kernel_rfl) (by simp) ?_
  intro i hi
  simp only [List.mem_cons, List.not_mem_nil, or_false] at hi
  subst hi
  refine wpOp_do (oi := { dst := some 17, op := Op.call { callee := Callee.value (Operand.func 15), args := #[Operand.tmp 11, Operand.tmp 16], argTypes := #[35, 3] }, type := 43, pos := "chiplog.go:196", after := #[{ on := 3, ground := Ground.data }, { on := 8, ground := Ground.data }], guard := none }) rfl (by rfl) ?_
  go_simp
  refine (before_any EA log ec log.length _ (HEB.out _ HBwc.out) (Nat.le_refl _) (by omega)).mono ?_
  rintro e wd ⟨rfl, hb_wd⟩
  have HBwd := hid (Below.step HBwc.out hb_wd); have HNEW2 := hid ((hb_wd.block bx (Array.getElem?_eq_some_iff.1 HNEW.out).1).trans HNEW.out); clear hb_wd
  dsimp only
  refine ⟨HCB.out _ HBwd.out, ?_⟩
  refine wpLate_all (rs := [11]) (by kernel_rfl) (by simp) ?_
  intro i hi
  simp only [List.mem_cons, List.not_mem_nil, or_false] at hi
  subst hi
  refine wpOp_do (oi := { dst := none, op := Op.store 43 (Operand.tmp 4) (Operand.tmp 17), type := 0, pos := "chiplog.go:196", after := #[{ on := 10, ground := Ground.data }, { on := 9, ground := Ground.data }, { on := 9, ground := Ground.chain }, { on := 0, ground := Ground.phase }, { on := 1, ground := Ground.phase }, { on := 2, ground := Ground.phase }, { on := 3, ground := Ground.phase }, { on := 4, ground := Ground.phase }, { on := 5, ground := Ground.phase }, { on := 6, ground := Ground.phase }, { on := 7, ground := Ground.phase }, { on := 8, ground := Ground.phase }, { on := 9, ground := Ground.phase }, { on := 10, ground := Ground.phase }], guard := none }) rfl (by rfl) ?_
  refine wp_store_row 43 _ _ rfl bx (icells (prev log log.length)).toArray (by rfl) (by rfl) 43 _ HNEW2.out (by rw [HPN.out]; exact size75) (by rw [HPN.out]; rfl) (all_oneCell_toArray (icells_one _)) ?_
  obtain ⟨wf, hwf⟩ : ∃ z, z = wd.setRow bx (icells (prev log log.length)).toArray := ⟨_, rfl⟩
  have HXF : Hid (TapeRow wf bx (prev log log.length)) := hid (by rw [hwf]; exact setRow_heap wd bx _ _ 43 (0, 0) HNEW2.out)
  have HBF : Hid (Below wb.heap.size wb wf) := hid (by rw [hwf]; exact Below.row HBwd.out HXB.out _)
  rw [← hwf]
  clear hwf HNEW
  simp only [Act.put]
  refine ⟨fun _ => HCB.out _ HBF.out, ?_⟩
  refine wpLate_done (by kernel_rfl) ?_ _
  all_goals
    obtain ⟨x, hx⟩ : ∃ x, x = prev log log.length := ⟨_, rfl⟩
    have HXL : Hid (x.length = 14) := hid (by rw [hx]; exact prev_len HH.out.len (Nat.le_refl _))
    rw [← hx] at HXF ⊢
    have HX0 : Hid (lastOf log = x) := hid hx.symm
    have HON : Hid (Only (Own t (.slice EA log.length ec) vc) w wf) := hid (by have := HBF.out; rw [HWB.out] at this; exact Only.ofBelow this)
    have HTF : Hid (TapeV wf t (.slice A b.length c) at_ log cyc (.slice EA log.length ec) vc) := hid (HHB.out.below HBF.out)
    have HNB : Hid (¬ Own t (.slice EA log.length ec) vc bx) := hid (fun h => by have h1 := (HHB.out.own_ge bx h).2; have h2 := HXB.out; omega)
    have HBW : Hid (w.heap.size ≤ bx) := hid (by have h1 := HXB.out; have h2 := HWB.out; rw [h2] at h1; exact h1)
    have HRF : Hid (Reads wf t A b) := hid (HR.out.only HON.out (own_le HH.out))
    clear hx
    go_wp2_with fail
    rw [show (128 : Int) + (r : Int) - 128 = (r : Int) by omega]
    refine (twrite_any _ t A c b at_ log cyc _ vc bx x r HTF.out HRF.out hat HXF.out HXL.out hr HNB.out).mono ?_
    intro e w2 hw
    cases hp : writeL b at_ x r with
    | inl er =>
      rw [hp] at hw
      obtain ⟨rfl, ho⟩ := hw
      refine ⟨rfl, ?_⟩
      have hr : singleS b at_ log cyc r = .inl er := by unfold singleS; rw [HX0.out, hp]
      unfold TapeTo
      rw [hr]
      exact ⟨rfl, HON.out.trans ho (fun q hq => by rcases hq with h | h; exact Or.inl h; exact Or.inr (h ▸ HBW.out))⟩
    | inr p =>
      rw [hp] at hw
      obtain ⟨rfl, ht2, hx2, ho⟩ := hw
      have hl2 := writeL_len hp
      have HP := hid hp; have HT2 := hid ht2; have HX2 := hid hx2
      have HO2 : Hid (Only (Own t (.slice EA log.length ec) vc) w w2) := hid (HON.out.trans ho (fun q hq => by rcases hq with h | h; exact Or.inl h; exact Or.inr (h ▸ HBW.out)))
      have HL2 : Hid (p.2.length = 14) := hid (by rw [hl2.1]; exact HXL.out)
      have HRX : Hid (w2.rangeAt bx 0 (icells p.2)) := hid (fun j v hj => by rw [Nat.zero_add]; exact cell_of_cells HX2.out (by simpa using hj))
      have HXS : Hid ((Try.prog.info? 43).map (·.size) = some (icells p.2).length) := hid (by rw [icells_len, HL2.out]; exact size75)
      have HSI : Hid (singleS b at_ log cyc r = putS p.1 log cyc p.2 12) := hid (by unfold singleS; rw [HX0.out, HP.out])
      clear hp ht2 hx2 ho hl2
      obtain ⟨a2, y2⟩ := p
      go_wp2_with (first | (refine wpList_load_mid rfl 43 _ rfl bx 0 rfl (icells y2) _ HRX.out Try.underlying43 rfl HXS.out ?_))
      refine (tput_any _ t _ a2 log cyc _ vc y2 12 HT2.out HL2.out).mono ?_
      intro e w3 hto
      have HTO := hid (hto.from HO2.out)
      cases hq : putS a2 log cyc y2 12 with
      | inl er =>
        rw [hq] at hto
        obtain ⟨rfl, _⟩ := hto
        refine ⟨rfl, ?_⟩
        rw [HSI.out]; exact HTO.out
      | inr s =>
        rw [hq] at hto
        obtain ⟨rfl, _⟩ := hto
        have HQ := hid hq; clear hq
        go_wp2
        go_end0
        rw [HSI.out]; exact HTO.out
end Go.Proofs.Ytmogoaceangblaa
