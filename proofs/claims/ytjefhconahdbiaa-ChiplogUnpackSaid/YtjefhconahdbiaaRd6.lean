/- The reference's reader: an entry that is taken. -/
import Derived.Test.YtjefhconahdbiaaRd5
namespace Go.Proofs.Ytjefhconahdbiaa
open Go.RowKit
theorem news_one {w : World} {k : Nat} {v : Value} (h : w.cell? ⟨k, 0, none⟩ = some v) : ∀ j u, [v][j]? = some u → w.cell? ((⟨k, 0, none⟩ : Addr).add j) = some u := by
  intro j u hj
  obtain ⟨hl, e⟩ := List.getElem?_eq_some_iff.1 hj
  simp at hl
  subst hl
  simp at e
  subst e
  rw [add_at _ rfl]
  exact h
theorem AddS.news1 {w W : World} {r n : Nat} {vl vc : Value} {hdrs : List Value} {cyc x : List Int} {cost : Int} {p : Nat × Nat} {k : Nat} {oh2 : Option Nat} {ov : Option Value} (h : AddS w W r n vl vc hdrs cyc x cost (some p) (some k) oh2 ov) : W.cell? ⟨k, 0, none⟩ = some (.slice (some ⟨p.1, 0, none⟩) 14 p.2) := by
  obtain ⟨_, p', e, hc⟩ := h.h1 k rfl
  cases e
  exact hc
set_option maxHeartbeats 8000000 in
set_option maxRecDepth 100000 in
theorem radd_ok (w : World) (r : Nat) (sb : Value) (at_ : Nat) (log : List (List Int)) (cyc : List Int) (vl vc : Value) (bx ox cx : Nat) (x : List Int) (cost : Int) (h : RdV w r sb at_ log cyc vl vc 0) (hl : log.length < 4000)
    (hx : w.rangeAt bx ox (icells x)) (h14 : x.length = 14) :
    Calls Try.prog 97 #[.pointer (some ⟨r, 0, none⟩), .slice (some ⟨bx, ox, none⟩) 14 cx, .int .i64 cost] w fun en w' => en = .returned (.tuple #[]) ∧
      ∃ vl' vc', RdV w' r sb at_ (log ++ [x]) (cyc ++ [cost]) vl' vc' 0 ∧ Only (Own r vl vc) w w' ∧ (∀ q, Own r vl' vc' q → Own r vl vc q ∨ w.heap.size ≤ q) := by
  have hc4 := cell_of_cells (k := 4) h.blk rfl
  have hc2 := cell_of_cells (k := 2) h.blk rfl
  have hc3 := cell_of_cells (k := 3) h.blk rfl
  have HOC := h.ownC
  obtain ⟨hdrs, h0, hrows⟩ := h.out
  obtain ⟨LA, lc, rfl, _⟩ := owned_form h0
  obtain ⟨CA, ec, rfl, _⟩ := owned_form HOC
  have hlt : r < w.heap.size := h.lt
  have hn1 : (Value.slice LA log.length lc).ownBlock ≠ some r := fun e => by have := (h0.lt r e).1; omega
  have hn2 : (Value.slice CA cyc.length ec).ownBlock ≠ some r := fun e => by have := (HOC.lt r e).1; omega
  have HADD : Hid (AddS w w r log.length (Value.slice LA log.length lc) (Value.slice CA cyc.length ec) hdrs cyc x cost none none none none) := hid (AddS.start h0 HOC)
  have HCELL : Hid (∀ (W : World) og oh1 oh2 ov, AddS w W r log.length (Value.slice LA log.length lc) (Value.slice CA cyc.length ec) hdrs cyc x cost og oh1 oh2 ov → W.cell? ⟨r, 2, none⟩ = some (.slice LA log.length lc) ∧ W.cell? ⟨r, 3, none⟩ = some (.slice CA cyc.length ec)) :=
    hid (fun W og oh1 oh2 ov k => ⟨k.cell hlt hn1 hn2 hc2, k.cell hlt hn1 hn2 hc3⟩)
  have HH := hid h; have H0 := hid h0; have HR := hid hrows; have HL := hid hl; have HX := hid hx; have H14 := hid h14; have HLT := hid hlt
  have HVL : Hid (∀ q, (Value.slice LA log.length lc).ownBlock = some q → q < w.heap.size) := hid (fun q hq => (h0.lt q hq).2)
  have HAP : Hid (∀ q, (Value.slice LA log.length lc).ownBlock = some q → (Value.slice CA cyc.length ec).ownBlock ≠ some q) := hid h.apart
  have HCL : Hid (cyc.length < 4000) := hid (by rw [h.eqv]; exact hl)
  have hge : decide ((4000 : Int) ≤ (log.length : Int)) = false := decide_eq_false (by omega)
  obtain ⟨i1, hi1, hy0, hy1, hy2⟩ := info_parts info61
  obtain ⟨i2, hi2, hz0, hz1, hz2⟩ := info_parts info3
  have HI1 := hid hi1; have HY0 := hid hy0; have HY1 := hid hy1; have HY2 := hid hy2; have HI2 := hid hi2; have HZ0 := hid hz0; have HZ1 := hid hz1; have HZ2 := hid hz2
  clear h h0 hrows hl hx h14 HOC hi1 hy0 hy1 hy2 hi2 hz0 hz1 hz2 hn1 hn2 hlt
  go_enter Try.func97, Try.ntmps97
  go_wp2_with fail
  have HS : (fun w' : World => w'.cell? ⟨r, 2, none⟩ = some (.slice LA log.length lc) ∧ w'.cell? ⟨r, 3, none⟩ = some (.slice CA cyc.length ec)) w.drew := ⟨hc2, hc3⟩
  refine wp_region_late (S := fun w' => w'.cell? ⟨r, 2, none⟩ = some (.slice LA log.length lc) ∧ w'.cell? ⟨r, 3, none⟩ = some (.slice CA cyc.length ec)) [19, 22] (by kernel_rfl) ?_
  have HA0 := hid HADD.out.drew
  obtain ⟨wd, hwd⟩ : ∃ z, z = w.drew := ⟨_, rfl⟩
  have HBX : Hid (Below w.heap.size w wd) := hid (by rw [hwd]; exact (Below.refl _ _).drew)
  rw [← hwd] at HA0 HS ⊢
  clear hwd hc2 hc3 hc4 hge
  refine wpLate_pure (i := 0) (oi := { dst := some 20, op := Op.move (Operand.tmp 0), type := 131, pos := "ref.go:163", after := #[], guard := none }) (v := ?vp1) rfl (by kernel_rfl) (by kernel_rfl) (by kernel_rfl) (by first | rfl | simp) (fun _ _ _ h => h) (Or.inl ⟨by rfl, ?hp1⟩) (fun _ => HS) ?rp1
  case hp1 => (intro w _; go_simp; try with_reducible rfl)
  (try simp only [Act.put, List.setIfInBounds_toArray, List.set_cons_zero, List.set_cons_succ])
  refine wpLate_pure (i := 1) (oi := { dst := some 21, op := Op.move (Operand.tmp 0), type := 131, pos := "ref.go:163", after := #[{ on := 19, ground := Ground.gcOnly Departure.lateStores }], guard := none }) (v := ?vp2) rfl (by kernel_rfl) (by kernel_rfl) (by kernel_rfl) (by first | rfl | simp) (fun _ _ _ h => h) (Or.inl ⟨by rfl, ?hp2⟩) (fun _ => HS) ?rp2
  case hp2 => (intro w _; go_simp; try with_reducible rfl)
  (try simp only [Act.put, List.setIfInBounds_toArray, List.set_cons_zero, List.set_cons_succ])
  refine wpLate_pure (i := 2) (oi := { dst := some 22, op := Op.move (Operand.tmp 0), type := 131, pos := "ref.go:163", after := #[], guard := none }) (v := ?vp3) rfl (by kernel_rfl) (by kernel_rfl) (by kernel_rfl) (by first | rfl | simp) (fun _ _ _ h => h) (Or.inl ⟨by rfl, ?hp3⟩) (fun _ => HS) ?rp3
  case hp3 => (intro w _; go_simp; try with_reducible rfl)
  (try simp only [Act.put, List.setIfInBounds_toArray, List.set_cons_zero, List.set_cons_succ])
  refine wpLate_pure (i := 3) (oi := { dst := some 23, op := Op.nilCheck (Operand.tmp 22), type := 0, pos := "ref.go:163", after := #[{ on := 2, ground := Ground.data }], guard := none }) (v := ?vp4) rfl (by kernel_rfl) (by kernel_rfl) (by kernel_rfl) (by first | rfl | simp) (fun _ _ _ h => h) (Or.inl ⟨by rfl, ?hp4⟩) (fun _ => HS) ?rp4
  case hp4 => (intro w _; go_simp; try with_reducible rfl)
  (try simp only [Act.put, List.setIfInBounds_toArray, List.set_cons_zero, List.set_cons_succ])
  refine wpLate_pure (i := 4) (oi := { dst := some 24, op := Op.fieldAddr 133 (Operand.tmp 23) 2, type := 0, pos := "ref.go:163", after := #[{ on := 3, ground := Ground.data }], guard := none }) (v := ?vp5) rfl (by kernel_rfl) (by kernel_rfl) (by kernel_rfl) (by first | rfl | simp) (fun _ _ _ h => h) (Or.inl ⟨by rfl, ?hp5⟩) (fun _ => HS) ?rp5
  case hp5 => (intro w _; go_simp; try with_reducible rfl)
  (try simp only [Act.put, List.setIfInBounds_toArray, List.set_cons_zero, List.set_cons_succ])
  refine wpLate_take (i := 5) (oi := { dst := some 25, op := Op.load 36 (Operand.tmp 24), type := 36, pos := "ref.go:163", after := #[{ on := 4, ground := Ground.data }], guard := none }) (v := ?vp6) rfl (by kernel_rfl) (by kernel_rfl) (by kernel_rfl) (by kernel_rfl) (by kernel_rfl) (fun _ _ _ h => h) (Or.inl ⟨by rfl, ?hp6⟩) (HS) ?rp6
  case hp6 => (intro w hSw; obtain ⟨hS1, hS2⟩ := hSw; go_simp; try with_reducible rfl)
  (try simp only [Act.put, List.setIfInBounds_toArray, List.set_cons_zero, List.set_cons_succ])
  refine wpLate_pure (i := 6) (oi := { dst := some 26, op := Op.move (Operand.tmp 1), type := 61, pos := "ref.go:163", after := #[], guard := none }) (v := ?vp7) rfl (by kernel_rfl) (by kernel_rfl) (by kernel_rfl) (by first | rfl | simp) (fun _ _ _ h => h) (Or.inl ⟨by rfl, ?hp7⟩) (fun _ => HS) ?rp7
  case hp7 => (intro w _; go_simp; try with_reducible rfl)
  (try simp only [Act.put, List.setIfInBounds_toArray, List.set_cons_zero, List.set_cons_succ])
  refine wpLate_pure (i := 10) (oi := { dst := some 30, op := Op.move (Operand.tmp 0), type := 131, pos := "ref.go:163", after := #[], guard := none }) (v := ?vp8) rfl (by kernel_rfl) (by kernel_rfl) (by kernel_rfl) (by first | rfl | simp) (fun _ _ _ h => h) (Or.inl ⟨by rfl, ?hp8⟩) (fun _ => HS) ?rp8
  case hp8 => (intro w _; go_simp; try with_reducible rfl)
  (try simp only [Act.put, List.setIfInBounds_toArray, List.set_cons_zero, List.set_cons_succ])
  refine wpLate_pure (i := 11) (oi := { dst := some 31, op := Op.nilCheck (Operand.tmp 30), type := 0, pos := "ref.go:163", after := #[{ on := 10, ground := Ground.data }], guard := none }) (v := ?vp9) rfl (by kernel_rfl) (by kernel_rfl) (by kernel_rfl) (by first | rfl | simp) (fun _ _ _ h => h) (Or.inl ⟨by rfl, ?hp9⟩) (fun _ => HS) ?rp9
  case hp9 => (intro w _; go_simp; try with_reducible rfl)
  (try simp only [Act.put, List.setIfInBounds_toArray, List.set_cons_zero, List.set_cons_succ])
  refine wpLate_pure (i := 12) (oi := { dst := some 32, op := Op.fieldAddr 133 (Operand.tmp 31) 3, type := 0, pos := "ref.go:163", after := #[{ on := 11, ground := Ground.data }], guard := none }) (v := ?vp10) rfl (by kernel_rfl) (by kernel_rfl) (by kernel_rfl) (by first | rfl | simp) (fun _ _ _ h => h) (Or.inl ⟨by rfl, ?hp10⟩) (fun _ => HS) ?rp10
  case hp10 => (intro w _; go_simp; try with_reducible rfl)
  (try simp only [Act.put, List.setIfInBounds_toArray, List.set_cons_zero, List.set_cons_succ])
  refine wpLate_take (i := 13) (oi := { dst := some 33, op := Op.load 61 (Operand.tmp 32), type := 61, pos := "ref.go:163", after := #[{ on := 12, ground := Ground.data }], guard := none }) (v := ?vp11) rfl (by kernel_rfl) (by kernel_rfl) (by kernel_rfl) (by kernel_rfl) (by kernel_rfl) (fun _ _ _ h => h) (Or.inl ⟨by rfl, ?hp11⟩) (HS) ?rp11
  case hp11 => (intro w hSw; obtain ⟨hS1, hS2⟩ := hSw; go_simp; try with_reducible rfl)
  (try simp only [Act.put, List.setIfInBounds_toArray, List.set_cons_zero, List.set_cons_succ])
  refine wpLate_pure (i := 14) (oi := { dst := some 34, op := Op.move (Operand.tmp 2), type := 3, pos := "ref.go:163", after := #[], guard := none }) (v := ?vp12) rfl (by kernel_rfl) (by kernel_rfl) (by kernel_rfl) (by first | rfl | simp) (fun _ _ _ h => h) (Or.inl ⟨by rfl, ?hp12⟩) (fun _ => HS) ?rp12
  case hp12 => (intro w _; go_simp; try with_reducible rfl)
  (try simp only [Act.put, List.setIfInBounds_toArray, List.set_cons_zero, List.set_cons_succ])
  clear HS
  refine wpLate_all (rs := [7, 15]) (by kernel_rfl) (by simp) ?_
  intro i hi
  simp only [List.mem_cons, List.not_mem_nil, or_false] at hi
  rcases hi with rfl | rfl
  · refine wpOp_do (oi := { dst := some 27, op := Op.call { callee := Callee.value (Operand.func 63), args := #[Operand.tmp 26], argTypes := #[61] }, type := 61, pos := "ref.go:163", after := #[{ on := 6, ground := Ground.data }], guard := none }) rfl (by rfl) ?_
    go_simp
    refine (Try.slices_Clone_int bx ox 14 cx x wd (by rw [H14.out]; exact Nat.le_refl _) (by omega) (range_cells (rangeAt_below HX.out HBX.out))).mono ?_
    rintro e w1 ⟨v', rfl, ho, -, hbn⟩
    obtain ⟨A3, c3, rfl, hA3⟩ := owned_form ho
    obtain ⟨g3, rfl, hge3, hlt3⟩ := hA3 (by omega)
    have HA1 := hid (HA0.out.setG (c := c3) hbn hge3 hlt3 (by have h1 := own_range ho; rwa [List.take_of_length_le (by rw [H14.out]; exact Nat.le_refl _)] at h1))
    clear ho hA3 hge3 hlt3 hbn
    refine ⟨(by first | exact HCELL.out _ _ _ _ _ HA1.out | exact fun _ => HCELL.out _ _ _ _ _ HA1.out), ?_⟩
    refine wpLate_all (rs := [8, 15]) (by kernel_rfl) (by simp) ?_
    intro i hi
    simp only [List.mem_cons, List.not_mem_nil, or_false] at hi
    rcases hi with rfl | rfl
    · refine wpOp_do (oi := { dst := some 28, op := Op.buildSlice 36 1 #[(0, Operand.tmp 27)], type := 36, pos := "ref.go:163", after := #[{ on := 7, ground := Ground.data }], guard := none }) rfl (by rfl) ?_
      go_simp
      obtain ⟨w2, hwn⟩ : ∃ z, z = w1.alloc (Obj.cells #[Value.slice (some ⟨g3, 0, none⟩) 14 c3] 61) := ⟨_, rfl⟩
      rw [← hwn]
      have HA2 := hid (HA1.out.setH1 (o := Obj.cells #[Value.slice (some ⟨g3, 0, none⟩) 14 c3] 61) (cell_of_cells (k := 0) (heap_alloc_new _ _) rfl))
      obtain ⟨k1, hk8⟩ : ∃ z, z = w1.heap.size := ⟨_, rfl⟩
      rw [← hwn, ← hk8] at HA2
      try rw [← hk8]
      clear hwn hk8
      (try simp only [Act.put, List.setIfInBounds_toArray, List.set_cons_zero, List.set_cons_succ])
      refine ⟨(by first | exact HCELL.out _ _ _ _ _ HA2.out | exact fun _ => HCELL.out _ _ _ _ _ HA2.out), ?_⟩
      refine wpLate_all (rs := [9, 15]) (by kernel_rfl) (by simp) ?_
      intro i hi
      simp only [List.mem_cons, List.not_mem_nil, or_false] at hi
      rcases hi with rfl | rfl
      · refine wpOp_do (oi := { dst := some 29, op := Op.call { callee := Callee.builtin Builtin.append, args := #[Operand.tmp 25, Operand.tmp 28], argTypes := #[36, 36] }, type := 36, pos := "ref.go:163", after := #[{ on := 5, ground := Ground.data }, { on := 8, ground := Ground.data }, { on := 7, ground := Ground.chain }], guard := none }) rfl (by rfl) ?_
        refine wp_append_lies _ _ _ _ rfl (r + 1) 61 i1 _ 1 24 Try.underlying36 HI1.out HY0.out HY1.out HY2.out rfl (by omega) (.slice LA log.length lc) log.length hdrs (by rfl) (HA2.out.rowL rfl) ⟨k1, 0, none⟩ 1 1 [.slice (some ⟨g3, 0, none⟩) 14 c3] (by rfl) rfl (news_one HA2.out.news1) (by simp [Value.oneCell']) (by omega) (by have := HL.out; unfold maxLen; omega) (by have := HL.out; omega) (by have := HA2.out.only.size; have := HLT.out; omega) _ rfl ?_
        intro g8 cap8 w3 ho8 hg8 ha8 hl8
        have HA3 := hid (HA2.out.setV HVL.out HAP.out ho8 hg8 ha8 hl8)
        clear ho8 hg8 ha8 hl8
        (try simp only [Act.put, List.setIfInBounds_toArray, List.set_cons_zero, List.set_cons_succ])
        refine ⟨(by first | exact HCELL.out _ _ _ _ _ HA3.out | exact fun _ => HCELL.out _ _ _ _ _ HA3.out), ?_⟩
        refine wpLate_all (rs := [15]) (by kernel_rfl) (by simp) ?_
        intro i hi
        simp only [List.mem_cons, List.not_mem_nil, or_false] at hi
        subst hi
        refine wpOp_do (oi := { dst := some 35, op := Op.buildSlice 61 1 #[(0, Operand.tmp 34)], type := 61, pos := "ref.go:163", after := #[{ on := 14, ground := Ground.data }], guard := none }) rfl (by rfl) ?_
        go_simp
        obtain ⟨w4, hwn⟩ : ∃ z, z = w3.alloc (Obj.cells #[Value.int IntKind.i64 cost] 3) := ⟨_, rfl⟩
        rw [← hwn]
        have HA4 := hid (HA3.out.setH2 (o := Obj.cells #[Value.int IntKind.i64 cost] 3) (cell_of_cells (k := 0) (heap_alloc_new _ _) rfl))
        obtain ⟨k2, hk15⟩ : ∃ z, z = w3.heap.size := ⟨_, rfl⟩
        rw [← hwn, ← hk15] at HA4
        try rw [← hk15]
        clear hwn hk15
        (try simp only [Act.put, List.setIfInBounds_toArray, List.set_cons_zero, List.set_cons_succ])
        refine ⟨(by first | exact HCELL.out _ _ _ _ _ HA4.out | exact fun _ => HCELL.out _ _ _ _ _ HA4.out), ?_⟩
        refine wpLate_all (rs := [16]) (by kernel_rfl) (by simp) ?_
        intro i hi
        simp only [List.mem_cons, List.not_mem_nil, or_false] at hi
        subst hi
        refine wpOp_do (oi := { dst := some 36, op := Op.call { callee := Callee.builtin Builtin.append, args := #[Operand.tmp 33, Operand.tmp 35], argTypes := #[61, 61] }, type := 61, pos := "ref.go:163", after := #[{ on := 13, ground := Ground.data }, { on := 15, ground := Ground.data }, { on := 9, ground := Ground.chain }], guard := none }) rfl (by rfl) ?_
        refine wp_append_lies _ _ _ _ rfl (r + 1) 3 i2 _ 1 8 Try.underlying61 HI2.out HZ0.out HZ1.out HZ2.out rfl (by omega) (.slice CA cyc.length ec) cyc.length (icells cyc) (by rfl) HA4.out.rowC ⟨k2, 0, none⟩ 1 1 [Value.int IntKind.i64 cost] (by rfl) rfl (news_one (HA4.out.h2 k2 rfl).2) (by simp [Value.oneCell']) (by omega) (by have := HCL.out; unfold maxLen; omega) (by have := HCL.out; omega) (by have := HA4.out.only.size; have := HLT.out; omega) _ rfl ?_
        intro g9 cap9 w5 ho9 hg9 ha9 _
        have HEND := hid (radd_end HH.out H0.out HR.out HL.out H14.out HA4.out ho9 hg9 ha9)
        have HT3 := hid (radd_blk HH.out HA4.out hg9)
        clear ho9 hg9 ha9
        (try simp only [Act.put, List.setIfInBounds_toArray, List.set_cons_zero, List.set_cons_succ])
        have HQ : Hid (w5.cell? ⟨r, 2, none⟩ = some (.slice LA log.length lc) ∧ w5.cell? ⟨r, 3, none⟩ = some (.slice CA cyc.length ec)) := hid ⟨cell_of_cells (k := 2) HT3.out rfl, cell_of_cells (k := 3) HT3.out rfl⟩
        refine ⟨(by first | exact HQ.out | exact fun _ => HQ.out), ?_⟩
        refine wpLate_pure (i := 17) (oi := { dst := some 37, op := Op.nilCheck (Operand.tmp 20), type := 0, pos := "ref.go:163", after := #[{ on := 0, ground := Ground.data }, { on := 0, ground := Ground.phase }, { on := 1, ground := Ground.textOnly Departure.lateStores }, { on := 2, ground := Ground.phase }, { on := 3, ground := Ground.phase }, { on := 4, ground := Ground.phase }, { on := 5, ground := Ground.phase }, { on := 6, ground := Ground.phase }, { on := 7, ground := Ground.phase }, { on := 8, ground := Ground.phase }, { on := 9, ground := Ground.phase }, { on := 10, ground := Ground.textOnly Departure.lateStores }, { on := 11, ground := Ground.textOnly Departure.lateStoresUnsure }, { on := 12, ground := Ground.textOnly Departure.lateStoresUnsure }, { on := 13, ground := Ground.phase }, { on := 14, ground := Ground.textOnly Departure.lateStores }, { on := 15, ground := Ground.textOnly Departure.lateStoresUnsure }, { on := 16, ground := Ground.phase }], guard := none }) (v := ?vp13) rfl (by kernel_rfl) (by kernel_rfl) (by kernel_rfl) (by first | rfl | simp) (fun _ _ _ h => h) (Or.inl ⟨by rfl, ?hp13⟩) (fun _ => HQ.out) ?rp13
        case hp13 => (intro w _; go_simp; try with_reducible rfl)
        (try simp only [Act.put, List.setIfInBounds_toArray, List.set_cons_zero, List.set_cons_succ])
        refine wpLate_pure (i := 18) (oi := { dst := some 38, op := Op.fieldAddr 133 (Operand.tmp 37) 2, type := 0, pos := "ref.go:163", after := #[{ on := 17, ground := Ground.data }, { on := 0, ground := Ground.phase }, { on := 1, ground := Ground.textOnly Departure.lateStores }, { on := 2, ground := Ground.phase }, { on := 3, ground := Ground.phase }, { on := 4, ground := Ground.phase }, { on := 5, ground := Ground.phase }, { on := 6, ground := Ground.phase }, { on := 7, ground := Ground.phase }, { on := 8, ground := Ground.phase }, { on := 9, ground := Ground.phase }, { on := 10, ground := Ground.textOnly Departure.lateStores }, { on := 11, ground := Ground.textOnly Departure.lateStoresUnsure }, { on := 12, ground := Ground.textOnly Departure.lateStoresUnsure }, { on := 13, ground := Ground.phase }, { on := 14, ground := Ground.textOnly Departure.lateStores }, { on := 15, ground := Ground.textOnly Departure.lateStoresUnsure }, { on := 16, ground := Ground.phase }], guard := none }) (v := ?vp14) rfl (by kernel_rfl) (by kernel_rfl) (by kernel_rfl) (by first | rfl | simp) (fun _ _ _ h => h) (Or.inl ⟨by rfl, ?hp14⟩) (fun _ => HQ.out) ?rp14
        case hp14 => (intro w _; go_simp; try with_reducible rfl)
        (try simp only [Act.put, List.setIfInBounds_toArray, List.set_cons_zero, List.set_cons_succ])
        have hf2 := frozen_of_cells (k := 2) HT3.out
        have hc2 := HQ.out.1
        have hf3 := frozen_of_cells (k := 3) HT3.out
        have hc3 := HQ.out.2
        refine wpLate_all (rs := [19]) (by kernel_rfl) (by simp) ?_
        intro i hi
        simp only [List.mem_cons, List.not_mem_nil, or_false] at hi
        subst hi
        refine wpOp_do (oi := { dst := none, op := Op.store 36 (Operand.tmp 38) (Operand.tmp 29), type := 0, pos := "ref.go:163", after := #[{ on := 18, ground := Ground.data }, { on := 9, ground := Ground.data }, { on := 16, ground := Ground.chain }, { on := 0, ground := Ground.phase }, { on := 1, ground := Ground.textOnly Departure.lateStores }, { on := 2, ground := Ground.phase }, { on := 3, ground := Ground.phase }, { on := 4, ground := Ground.phase }, { on := 5, ground := Ground.phase }, { on := 6, ground := Ground.phase }, { on := 7, ground := Ground.phase }, { on := 8, ground := Ground.phase }, { on := 9, ground := Ground.phase }, { on := 10, ground := Ground.textOnly Departure.lateStores }, { on := 11, ground := Ground.textOnly Departure.lateStoresUnsure }, { on := 12, ground := Ground.textOnly Departure.lateStoresUnsure }, { on := 13, ground := Ground.phase }, { on := 14, ground := Ground.textOnly Departure.lateStores }, { on := 15, ground := Ground.textOnly Departure.lateStoresUnsure }, { on := 16, ground := Ground.phase }], guard := none }) rfl (by rfl) ?_
        go_simp
        refine wpLate_pure (i := 20) (oi := { dst := some 39, op := Op.nilCheck (Operand.tmp 21), type := 0, pos := "ref.go:163", after := #[{ on := 1, ground := Ground.data }, { on := 0, ground := Ground.phase }, { on := 1, ground := Ground.phase }, { on := 2, ground := Ground.phase }, { on := 3, ground := Ground.phase }, { on := 4, ground := Ground.phase }, { on := 5, ground := Ground.phase }, { on := 6, ground := Ground.phase }, { on := 7, ground := Ground.phase }, { on := 8, ground := Ground.phase }, { on := 9, ground := Ground.phase }, { on := 10, ground := Ground.phase }, { on := 11, ground := Ground.phase }, { on := 12, ground := Ground.phase }, { on := 13, ground := Ground.phase }, { on := 14, ground := Ground.phase }, { on := 15, ground := Ground.phase }, { on := 16, ground := Ground.phase }, { on := 17, ground := Ground.phase }, { on := 18, ground := Ground.phase }, { on := 19, ground := Ground.phase }], guard := none }) (v := ?vp15) rfl (by kernel_rfl) (by kernel_rfl) (by kernel_rfl) (by first | rfl | simp) (fun _ _ _ h => h) (Or.inl ⟨by rfl, ?hp15⟩) (fun h => by cases h) ?rp15
        case hp15 => (intro w _; go_simp; try with_reducible rfl)
        (try simp only [Act.put, List.setIfInBounds_toArray, List.set_cons_zero, List.set_cons_succ])
        refine wpLate_pure (i := 21) (oi := { dst := some 40, op := Op.fieldAddr 133 (Operand.tmp 39) 3, type := 0, pos := "ref.go:163", after := #[{ on := 20, ground := Ground.data }, { on := 0, ground := Ground.phase }, { on := 1, ground := Ground.phase }, { on := 2, ground := Ground.phase }, { on := 3, ground := Ground.phase }, { on := 4, ground := Ground.phase }, { on := 5, ground := Ground.phase }, { on := 6, ground := Ground.phase }, { on := 7, ground := Ground.phase }, { on := 8, ground := Ground.phase }, { on := 9, ground := Ground.phase }, { on := 10, ground := Ground.phase }, { on := 11, ground := Ground.phase }, { on := 12, ground := Ground.phase }, { on := 13, ground := Ground.phase }, { on := 14, ground := Ground.phase }, { on := 15, ground := Ground.phase }, { on := 16, ground := Ground.phase }, { on := 17, ground := Ground.phase }, { on := 18, ground := Ground.phase }, { on := 19, ground := Ground.phase }], guard := none }) (v := ?vp16) rfl (by kernel_rfl) (by kernel_rfl) (by kernel_rfl) (by first | rfl | simp) (fun _ _ _ h => h) (Or.inl ⟨by rfl, ?hp16⟩) (fun h => by cases h) ?rp16
        case hp16 => (intro w _; go_simp; try with_reducible rfl)
        (try simp only [Act.put, List.setIfInBounds_toArray, List.set_cons_zero, List.set_cons_succ])
        refine wpLate_all (rs := [22]) (by kernel_rfl) (by simp) ?_
        intro i hi
        simp only [List.mem_cons, List.not_mem_nil, or_false] at hi
        subst hi
        refine wpOp_do (oi := { dst := none, op := Op.store 61 (Operand.tmp 40) (Operand.tmp 36), type := 0, pos := "ref.go:163", after := #[{ on := 21, ground := Ground.data }, { on := 16, ground := Ground.data }, { on := 19, ground := Ground.chain }, { on := 0, ground := Ground.phase }, { on := 1, ground := Ground.phase }, { on := 2, ground := Ground.phase }, { on := 3, ground := Ground.phase }, { on := 4, ground := Ground.phase }, { on := 5, ground := Ground.phase }, { on := 6, ground := Ground.phase }, { on := 7, ground := Ground.phase }, { on := 8, ground := Ground.phase }, { on := 9, ground := Ground.phase }, { on := 10, ground := Ground.phase }, { on := 11, ground := Ground.phase }, { on := 12, ground := Ground.phase }, { on := 13, ground := Ground.phase }, { on := 14, ground := Ground.phase }, { on := 15, ground := Ground.phase }, { on := 16, ground := Ground.phase }, { on := 17, ground := Ground.phase }, { on := 18, ground := Ground.phase }, { on := 19, ground := Ground.phase }], guard := none }) rfl (by rfl) ?_
        go_simp
        refine wpLate_done (by kernel_rfl) ?_ _
        go_wp2
        go_end0
        exact ⟨rfl, _, _, HEND.out⟩
      · refine wpOp_do (oi := { dst := some 35, op := Op.buildSlice 61 1 #[(0, Operand.tmp 34)], type := 61, pos := "ref.go:163", after := #[{ on := 14, ground := Ground.data }], guard := none }) rfl (by rfl) ?_
        go_simp
        obtain ⟨w3, hwn⟩ : ∃ z, z = w2.alloc (Obj.cells #[Value.int IntKind.i64 cost] 3) := ⟨_, rfl⟩
        rw [← hwn]
        have HA3 := hid (HA2.out.setH2 (o := Obj.cells #[Value.int IntKind.i64 cost] 3) (cell_of_cells (k := 0) (heap_alloc_new _ _) rfl))
        obtain ⟨k2, hk15⟩ : ∃ z, z = w2.heap.size := ⟨_, rfl⟩
        rw [← hwn, ← hk15] at HA3
        try rw [← hk15]
        clear hwn hk15
        (try simp only [Act.put, List.setIfInBounds_toArray, List.set_cons_zero, List.set_cons_succ])
        refine ⟨(by first | exact HCELL.out _ _ _ _ _ HA3.out | exact fun _ => HCELL.out _ _ _ _ _ HA3.out), ?_⟩
        refine wpLate_all (rs := [9]) (by kernel_rfl) (by simp) ?_
        intro i hi
        simp only [List.mem_cons, List.not_mem_nil, or_false] at hi
        subst hi
        refine wpOp_do (oi := { dst := some 29, op := Op.call { callee := Callee.builtin Builtin.append, args := #[Operand.tmp 25, Operand.tmp 28], argTypes := #[36, 36] }, type := 36, pos := "ref.go:163", after := #[{ on := 5, ground := Ground.data }, { on := 8, ground := Ground.data }, { on := 7, ground := Ground.chain }], guard := none }) rfl (by rfl) ?_
        refine wp_append_lies _ _ _ _ rfl (r + 1) 61 i1 _ 1 24 Try.underlying36 HI1.out HY0.out HY1.out HY2.out rfl (by omega) (.slice LA log.length lc) log.length hdrs (by rfl) (HA3.out.rowL rfl) ⟨k1, 0, none⟩ 1 1 [.slice (some ⟨g3, 0, none⟩) 14 c3] (by rfl) rfl (news_one HA3.out.news1) (by simp [Value.oneCell']) (by omega) (by have := HL.out; unfold maxLen; omega) (by have := HL.out; omega) (by have := HA3.out.only.size; have := HLT.out; omega) _ rfl ?_
        intro g8 cap8 w4 ho8 hg8 ha8 hl8
        have HA4 := hid (HA3.out.setV HVL.out HAP.out ho8 hg8 ha8 hl8)
        clear ho8 hg8 ha8 hl8
        (try simp only [Act.put, List.setIfInBounds_toArray, List.set_cons_zero, List.set_cons_succ])
        refine ⟨(by first | exact HCELL.out _ _ _ _ _ HA4.out | exact fun _ => HCELL.out _ _ _ _ _ HA4.out), ?_⟩
        refine wpLate_all (rs := [16]) (by kernel_rfl) (by simp) ?_
        intro i hi
        simp only [List.mem_cons, List.not_mem_nil, or_false] at hi
        subst hi
        refine wpOp_do (oi := { dst := some 36, op := Op.call { callee := Callee.builtin Builtin.append, args := #[Operand.tmp 33, Operand.tmp 35], argTypes := #[61, 61] }, type := 61, pos := "ref.go:163", after := #[{ on := 13, ground := Ground.data }, { on := 15, ground := Ground.data }, { on := 9, ground := Ground.chain }], guard := none }) rfl (by rfl) ?_
        refine wp_append_lies _ _ _ _ rfl (r + 1) 3 i2 _ 1 8 Try.underlying61 HI2.out HZ0.out HZ1.out HZ2.out rfl (by omega) (.slice CA cyc.length ec) cyc.length (icells cyc) (by rfl) HA4.out.rowC ⟨k2, 0, none⟩ 1 1 [Value.int IntKind.i64 cost] (by rfl) rfl (news_one (HA4.out.h2 k2 rfl).2) (by simp [Value.oneCell']) (by omega) (by have := HCL.out; unfold maxLen; omega) (by have := HCL.out; omega) (by have := HA4.out.only.size; have := HLT.out; omega) _ rfl ?_
        intro g9 cap9 w5 ho9 hg9 ha9 _
        have HEND := hid (radd_end HH.out H0.out HR.out HL.out H14.out HA4.out ho9 hg9 ha9)
        have HT3 := hid (radd_blk HH.out HA4.out hg9)
        clear ho9 hg9 ha9
        (try simp only [Act.put, List.setIfInBounds_toArray, List.set_cons_zero, List.set_cons_succ])
        have HQ : Hid (w5.cell? ⟨r, 2, none⟩ = some (.slice LA log.length lc) ∧ w5.cell? ⟨r, 3, none⟩ = some (.slice CA cyc.length ec)) := hid ⟨cell_of_cells (k := 2) HT3.out rfl, cell_of_cells (k := 3) HT3.out rfl⟩
        refine ⟨(by first | exact HQ.out | exact fun _ => HQ.out), ?_⟩
        refine wpLate_pure (i := 17) (oi := { dst := some 37, op := Op.nilCheck (Operand.tmp 20), type := 0, pos := "ref.go:163", after := #[{ on := 0, ground := Ground.data }, { on := 0, ground := Ground.phase }, { on := 1, ground := Ground.textOnly Departure.lateStores }, { on := 2, ground := Ground.phase }, { on := 3, ground := Ground.phase }, { on := 4, ground := Ground.phase }, { on := 5, ground := Ground.phase }, { on := 6, ground := Ground.phase }, { on := 7, ground := Ground.phase }, { on := 8, ground := Ground.phase }, { on := 9, ground := Ground.phase }, { on := 10, ground := Ground.textOnly Departure.lateStores }, { on := 11, ground := Ground.textOnly Departure.lateStoresUnsure }, { on := 12, ground := Ground.textOnly Departure.lateStoresUnsure }, { on := 13, ground := Ground.phase }, { on := 14, ground := Ground.textOnly Departure.lateStores }, { on := 15, ground := Ground.textOnly Departure.lateStoresUnsure }, { on := 16, ground := Ground.phase }], guard := none }) (v := ?vp17) rfl (by kernel_rfl) (by kernel_rfl) (by kernel_rfl) (by first | rfl | simp) (fun _ _ _ h => h) (Or.inl ⟨by rfl, ?hp17⟩) (fun _ => HQ.out) ?rp17
        case hp17 => (intro w _; go_simp; try with_reducible rfl)
        (try simp only [Act.put, List.setIfInBounds_toArray, List.set_cons_zero, List.set_cons_succ])
        refine wpLate_pure (i := 18) (oi := { dst := some 38, op := Op.fieldAddr 133 (Operand.tmp 37) 2, type := 0, pos := "ref.go:163", after := #[{ on := 17, ground := Ground.data }, { on := 0, ground := Ground.phase }, { on := 1, ground := Ground.textOnly Departure.lateStores }, { on := 2, ground := Ground.phase }, { on := 3, ground := Ground.phase }, { on := 4, ground := Ground.phase }, { on := 5, ground := Ground.phase }, { on := 6, ground := Ground.phase }, { on := 7, ground := Ground.phase }, { on := 8, ground := Ground.phase }, { on := 9, ground := Ground.phase }, { on := 10, ground := Ground.textOnly Departure.lateStores }, { on := 11, ground := Ground.textOnly Departure.lateStoresUnsure }, { on := 12, ground := Ground.textOnly Departure.lateStoresUnsure }, { on := 13, ground := Ground.phase }, { on := 14, ground := Ground.textOnly Departure.lateStores }, { on := 15, ground := Ground.textOnly Departure.lateStoresUnsure }, { on := 16, ground := Ground.phase }], guard := none }) (v := ?vp18) rfl (by kernel_rfl) (by kernel_rfl) (by kernel_rfl) (by first | rfl | simp) (fun _ _ _ h => h) (Or.inl ⟨by rfl, ?hp18⟩) (fun _ => HQ.out) ?rp18
        case hp18 => (intro w _; go_simp; try with_reducible rfl)
        (try simp only [Act.put, List.setIfInBounds_toArray, List.set_cons_zero, List.set_cons_succ])
        have hf2 := frozen_of_cells (k := 2) HT3.out
        have hc2 := HQ.out.1
        have hf3 := frozen_of_cells (k := 3) HT3.out
        have hc3 := HQ.out.2
        refine wpLate_all (rs := [19]) (by kernel_rfl) (by simp) ?_
        intro i hi
        simp only [List.mem_cons, List.not_mem_nil, or_false] at hi
        subst hi
        refine wpOp_do (oi := { dst := none, op := Op.store 36 (Operand.tmp 38) (Operand.tmp 29), type := 0, pos := "ref.go:163", after := #[{ on := 18, ground := Ground.data }, { on := 9, ground := Ground.data }, { on := 16, ground := Ground.chain }, { on := 0, ground := Ground.phase }, { on := 1, ground := Ground.textOnly Departure.lateStores }, { on := 2, ground := Ground.phase }, { on := 3, ground := Ground.phase }, { on := 4, ground := Ground.phase }, { on := 5, ground := Ground.phase }, { on := 6, ground := Ground.phase }, { on := 7, ground := Ground.phase }, { on := 8, ground := Ground.phase }, { on := 9, ground := Ground.phase }, { on := 10, ground := Ground.textOnly Departure.lateStores }, { on := 11, ground := Ground.textOnly Departure.lateStoresUnsure }, { on := 12, ground := Ground.textOnly Departure.lateStoresUnsure }, { on := 13, ground := Ground.phase }, { on := 14, ground := Ground.textOnly Departure.lateStores }, { on := 15, ground := Ground.textOnly Departure.lateStoresUnsure }, { on := 16, ground := Ground.phase }], guard := none }) rfl (by rfl) ?_
        go_simp
        refine wpLate_pure (i := 20) (oi := { dst := some 39, op := Op.nilCheck (Operand.tmp 21), type := 0, pos := "ref.go:163", after := #[{ on := 1, ground := Ground.data }, { on := 0, ground := Ground.phase }, { on := 1, ground := Ground.phase }, { on := 2, ground := Ground.phase }, { on := 3, ground := Ground.phase }, { on := 4, ground := Ground.phase }, { on := 5, ground := Ground.phase }, { on := 6, ground := Ground.phase }, { on := 7, ground := Ground.phase }, { on := 8, ground := Ground.phase }, { on := 9, ground := Ground.phase }, { on := 10, ground := Ground.phase }, { on := 11, ground := Ground.phase }, { on := 12, ground := Ground.phase }, { on := 13, ground := Ground.phase }, { on := 14, ground := Ground.phase }, { on := 15, ground := Ground.phase }, { on := 16, ground := Ground.phase }, { on := 17, ground := Ground.phase }, { on := 18, ground := Ground.phase }, { on := 19, ground := Ground.phase }], guard := none }) (v := ?vp19) rfl (by kernel_rfl) (by kernel_rfl) (by kernel_rfl) (by first | rfl | simp) (fun _ _ _ h => h) (Or.inl ⟨by rfl, ?hp19⟩) (fun h => by cases h) ?rp19
        case hp19 => (intro w _; go_simp; try with_reducible rfl)
        (try simp only [Act.put, List.setIfInBounds_toArray, List.set_cons_zero, List.set_cons_succ])
        refine wpLate_pure (i := 21) (oi := { dst := some 40, op := Op.fieldAddr 133 (Operand.tmp 39) 3, type := 0, pos := "ref.go:163", after := #[{ on := 20, ground := Ground.data }, { on := 0, ground := Ground.phase }, { on := 1, ground := Ground.phase }, { on := 2, ground := Ground.phase }, { on := 3, ground := Ground.phase }, { on := 4, ground := Ground.phase }, { on := 5, ground := Ground.phase }, { on := 6, ground := Ground.phase }, { on := 7, ground := Ground.phase }, { on := 8, ground := Ground.phase }, { on := 9, ground := Ground.phase }, { on := 10, ground := Ground.phase }, { on := 11, ground := Ground.phase }, { on := 12, ground := Ground.phase }, { on := 13, ground := Ground.phase }, { on := 14, ground := Ground.phase }, { on := 15, ground := Ground.phase }, { on := 16, ground := Ground.phase }, { on := 17, ground := Ground.phase }, { on := 18, ground := Ground.phase }, { on := 19, ground := Ground.phase }], guard := none }) (v := ?vp20) rfl (by kernel_rfl) (by kernel_rfl) (by kernel_rfl) (by first | rfl | simp) (fun _ _ _ h => h) (Or.inl ⟨by rfl, ?hp20⟩) (fun h => by cases h) ?rp20
        case hp20 => (intro w _; go_simp; try with_reducible rfl)
        (try simp only [Act.put, List.setIfInBounds_toArray, List.set_cons_zero, List.set_cons_succ])
        refine wpLate_all (rs := [22]) (by kernel_rfl) (by simp) ?_
        intro i hi
        simp only [List.mem_cons, List.not_mem_nil, or_false] at hi
        subst hi
        refine wpOp_do (oi := { dst := none, op := Op.store 61 (Operand.tmp 40) (Operand.tmp 36), type := 0, pos := "ref.go:163", after := #[{ on := 21, ground := Ground.data }, { on := 16, ground := Ground.data }, { on := 19, ground := Ground.chain }, { on := 0, ground := Ground.phase }, { on := 1, ground := Ground.phase }, { on := 2, ground := Ground.phase }, { on := 3, ground := Ground.phase }, { on := 4, ground := Ground.phase }, { on := 5, ground := Ground.phase }, { on := 6, ground := Ground.phase }, { on := 7, ground := Ground.phase }, { on := 8, ground := Ground.phase }, { on := 9, ground := Ground.phase }, { on := 10, ground := Ground.phase }, { on := 11, ground := Ground.phase }, { on := 12, ground := Ground.phase }, { on := 13, ground := Ground.phase }, { on := 14, ground := Ground.phase }, { on := 15, ground := Ground.phase }, { on := 16, ground := Ground.phase }, { on := 17, ground := Ground.phase }, { on := 18, ground := Ground.phase }, { on := 19, ground := Ground.phase }], guard := none }) rfl (by rfl) ?_
        go_simp
        refine wpLate_done (by kernel_rfl) ?_ _
        go_wp2
        go_end0
        exact ⟨rfl, _, _, HEND.out⟩
    · refine wpOp_do (oi := { dst := some 35, op := Op.buildSlice 61 1 #[(0, Operand.tmp 34)], type := 61, pos := "ref.go:163", after := #[{ on := 14, ground := Ground.data }], guard := none }) rfl (by rfl) ?_
      go_simp
      obtain ⟨w2, hwn⟩ : ∃ z, z = w1.alloc (Obj.cells #[Value.int IntKind.i64 cost] 3) := ⟨_, rfl⟩
      rw [← hwn]
      have HA2 := hid (HA1.out.setH2 (o := Obj.cells #[Value.int IntKind.i64 cost] 3) (cell_of_cells (k := 0) (heap_alloc_new _ _) rfl))
      obtain ⟨k2, hk15⟩ : ∃ z, z = w1.heap.size := ⟨_, rfl⟩
      rw [← hwn, ← hk15] at HA2
      try rw [← hk15]
      clear hwn hk15
      (try simp only [Act.put, List.setIfInBounds_toArray, List.set_cons_zero, List.set_cons_succ])
      refine ⟨(by first | exact HCELL.out _ _ _ _ _ HA2.out | exact fun _ => HCELL.out _ _ _ _ _ HA2.out), ?_⟩
      refine wpLate_all (rs := [8]) (by kernel_rfl) (by simp) ?_
      intro i hi
      simp only [List.mem_cons, List.not_mem_nil, or_false] at hi
      subst hi
      refine wpOp_do (oi := { dst := some 28, op := Op.buildSlice 36 1 #[(0, Operand.tmp 27)], type := 36, pos := "ref.go:163", after := #[{ on := 7, ground := Ground.data }], guard := none }) rfl (by rfl) ?_
      go_simp
      obtain ⟨w3, hwn⟩ : ∃ z, z = w2.alloc (Obj.cells #[Value.slice (some ⟨g3, 0, none⟩) 14 c3] 61) := ⟨_, rfl⟩
      rw [← hwn]
      have HA3 := hid (HA2.out.setH1 (o := Obj.cells #[Value.slice (some ⟨g3, 0, none⟩) 14 c3] 61) (cell_of_cells (k := 0) (heap_alloc_new _ _) rfl))
      obtain ⟨k1, hk8⟩ : ∃ z, z = w2.heap.size := ⟨_, rfl⟩
      rw [← hwn, ← hk8] at HA3
      try rw [← hk8]
      clear hwn hk8
      (try simp only [Act.put, List.setIfInBounds_toArray, List.set_cons_zero, List.set_cons_succ])
      refine ⟨(by first | exact HCELL.out _ _ _ _ _ HA3.out | exact fun _ => HCELL.out _ _ _ _ _ HA3.out), ?_⟩
      refine wpLate_all (rs := [9]) (by kernel_rfl) (by simp) ?_
      intro i hi
      simp only [List.mem_cons, List.not_mem_nil, or_false] at hi
      subst hi
      refine wpOp_do (oi := { dst := some 29, op := Op.call { callee := Callee.builtin Builtin.append, args := #[Operand.tmp 25, Operand.tmp 28], argTypes := #[36, 36] }, type := 36, pos := "ref.go:163", after := #[{ on := 5, ground := Ground.data }, { on := 8, ground := Ground.data }, { on := 7, ground := Ground.chain }], guard := none }) rfl (by rfl) ?_
      refine wp_append_lies _ _ _ _ rfl (r + 1) 61 i1 _ 1 24 Try.underlying36 HI1.out HY0.out HY1.out HY2.out rfl (by omega) (.slice LA log.length lc) log.length hdrs (by rfl) (HA3.out.rowL rfl) ⟨k1, 0, none⟩ 1 1 [.slice (some ⟨g3, 0, none⟩) 14 c3] (by rfl) rfl (news_one HA3.out.news1) (by simp [Value.oneCell']) (by omega) (by have := HL.out; unfold maxLen; omega) (by have := HL.out; omega) (by have := HA3.out.only.size; have := HLT.out; omega) _ rfl ?_
      intro g8 cap8 w4 ho8 hg8 ha8 hl8
      have HA4 := hid (HA3.out.setV HVL.out HAP.out ho8 hg8 ha8 hl8)
      clear ho8 hg8 ha8 hl8
      (try simp only [Act.put, List.setIfInBounds_toArray, List.set_cons_zero, List.set_cons_succ])
      refine ⟨(by first | exact HCELL.out _ _ _ _ _ HA4.out | exact fun _ => HCELL.out _ _ _ _ _ HA4.out), ?_⟩
      refine wpLate_all (rs := [16]) (by kernel_rfl) (by simp) ?_
      intro i hi
      simp only [List.mem_cons, List.not_mem_nil, or_false] at hi
      subst hi
      refine wpOp_do (oi := { dst := some 36, op := Op.call { callee := Callee.builtin Builtin.append, args := #[Operand.tmp 33, Operand.tmp 35], argTypes := #[61, 61] }, type := 61, pos := "ref.go:163", after := #[{ on := 13, ground := Ground.data }, { on := 15, ground := Ground.data }, { on := 9, ground := Ground.chain }], guard := none }) rfl (by rfl) ?_
      refine wp_append_lies _ _ _ _ rfl (r + 1) 3 i2 _ 1 8 Try.underlying61 HI2.out HZ0.out HZ1.out HZ2.out rfl (by omega) (.slice CA cyc.length ec) cyc.length (icells cyc) (by rfl) HA4.out.rowC ⟨k2, 0, none⟩ 1 1 [Value.int IntKind.i64 cost] (by rfl) rfl (news_one (HA4.out.h2 k2 rfl).2) (by simp [Value.oneCell']) (by omega) (by have := HCL.out; unfold maxLen; omega) (by have := HCL.out; omega) (by have := HA4.out.only.size; have := HLT.out; omega) _ rfl ?_
      intro g9 cap9 w5 ho9 hg9 ha9 _
      have HEND := hid (radd_end HH.out H0.out HR.out HL.out H14.out HA4.out ho9 hg9 ha9)
      have HT3 := hid (radd_blk HH.out HA4.out hg9)
      clear ho9 hg9 ha9
      (try simp only [Act.put, List.setIfInBounds_toArray, List.set_cons_zero, List.set_cons_succ])
      have HQ : Hid (w5.cell? ⟨r, 2, none⟩ = some (.slice LA log.length lc) ∧ w5.cell? ⟨r, 3, none⟩ = some (.slice CA cyc.length ec)) := hid ⟨cell_of_cells (k := 2) HT3.out rfl, cell_of_cells (k := 3) HT3.out rfl⟩
      refine ⟨(by first | exact HQ.out | exact fun _ => HQ.out), ?_⟩
      refine wpLate_pure (i := 17) (oi := { dst := some 37, op := Op.nilCheck (Operand.tmp 20), type := 0, pos := "ref.go:163", after := #[{ on := 0, ground := Ground.data }, { on := 0, ground := Ground.phase }, { on := 1, ground := Ground.textOnly Departure.lateStores }, { on := 2, ground := Ground.phase }, { on := 3, ground := Ground.phase }, { on := 4, ground := Ground.phase }, { on := 5, ground := Ground.phase }, { on := 6, ground := Ground.phase }, { on := 7, ground := Ground.phase }, { on := 8, ground := Ground.phase }, { on := 9, ground := Ground.phase }, { on := 10, ground := Ground.textOnly Departure.lateStores }, { on := 11, ground := Ground.textOnly Departure.lateStoresUnsure }, { on := 12, ground := Ground.textOnly Departure.lateStoresUnsure }, { on := 13, ground := Ground.phase }, { on := 14, ground := Ground.textOnly Departure.lateStores }, { on := 15, ground := Ground.textOnly Departure.lateStoresUnsure }, { on := 16, ground := Ground.phase }], guard := none }) (v := ?vp21) rfl (by kernel_rfl) (by kernel_rfl) (by kernel_rfl) (by first | rfl | simp) (fun _ _ _ h => h) (Or.inl ⟨by rfl, ?hp21⟩) (fun _ => HQ.out) ?rp21
      case hp21 => (intro w _; go_simp; try with_reducible rfl)
      (try simp only [Act.put, List.setIfInBounds_toArray, List.set_cons_zero, List.set_cons_succ])
      refine wpLate_pure (i := 18) (oi := { dst := some 38, op := Op.fieldAddr 133 (Operand.tmp 37) 2, type := 0, pos := "ref.go:163", after := #[{ on := 17, ground := Ground.data }, { on := 0, ground := Ground.phase }, { on := 1, ground := Ground.textOnly Departure.lateStores }, { on := 2, ground := Ground.phase }, { on := 3, ground := Ground.phase }, { on := 4, ground := Ground.phase }, { on := 5, ground := Ground.phase }, { on := 6, ground := Ground.phase }, { on := 7, ground := Ground.phase }, { on := 8, ground := Ground.phase }, { on := 9, ground := Ground.phase }, { on := 10, ground := Ground.textOnly Departure.lateStores }, { on := 11, ground := Ground.textOnly Departure.lateStoresUnsure }, { on := 12, ground := Ground.textOnly Departure.lateStoresUnsure }, { on := 13, ground := Ground.phase }, { on := 14, ground := Ground.textOnly Departure.lateStores }, { on := 15, ground := Ground.textOnly Departure.lateStoresUnsure }, { on := 16, ground := Ground.phase }], guard := none }) (v := ?vp22) rfl (by kernel_rfl) (by kernel_rfl) (by kernel_rfl) (by first | rfl | simp) (fun _ _ _ h => h) (Or.inl ⟨by rfl, ?hp22⟩) (fun _ => HQ.out) ?rp22
      case hp22 => (intro w _; go_simp; try with_reducible rfl)
      (try simp only [Act.put, List.setIfInBounds_toArray, List.set_cons_zero, List.set_cons_succ])
      have hf2 := frozen_of_cells (k := 2) HT3.out
      have hc2 := HQ.out.1
      have hf3 := frozen_of_cells (k := 3) HT3.out
      have hc3 := HQ.out.2
      refine wpLate_all (rs := [19]) (by kernel_rfl) (by simp) ?_
      intro i hi
      simp only [List.mem_cons, List.not_mem_nil, or_false] at hi
      subst hi
      refine wpOp_do (oi := { dst := none, op := Op.store 36 (Operand.tmp 38) (Operand.tmp 29), type := 0, pos := "ref.go:163", after := #[{ on := 18, ground := Ground.data }, { on := 9, ground := Ground.data }, { on := 16, ground := Ground.chain }, { on := 0, ground := Ground.phase }, { on := 1, ground := Ground.textOnly Departure.lateStores }, { on := 2, ground := Ground.phase }, { on := 3, ground := Ground.phase }, { on := 4, ground := Ground.phase }, { on := 5, ground := Ground.phase }, { on := 6, ground := Ground.phase }, { on := 7, ground := Ground.phase }, { on := 8, ground := Ground.phase }, { on := 9, ground := Ground.phase }, { on := 10, ground := Ground.textOnly Departure.lateStores }, { on := 11, ground := Ground.textOnly Departure.lateStoresUnsure }, { on := 12, ground := Ground.textOnly Departure.lateStoresUnsure }, { on := 13, ground := Ground.phase }, { on := 14, ground := Ground.textOnly Departure.lateStores }, { on := 15, ground := Ground.textOnly Departure.lateStoresUnsure }, { on := 16, ground := Ground.phase }], guard := none }) rfl (by rfl) ?_
      go_simp
      refine wpLate_pure (i := 20) (oi := { dst := some 39, op := Op.nilCheck (Operand.tmp 21), type := 0, pos := "ref.go:163", after := #[{ on := 1, ground := Ground.data }, { on := 0, ground := Ground.phase }, { on := 1, ground := Ground.phase }, { on := 2, ground := Ground.phase }, { on := 3, ground := Ground.phase }, { on := 4, ground := Ground.phase }, { on := 5, ground := Ground.phase }, { on := 6, ground := Ground.phase }, { on := 7, ground := Ground.phase }, { on := 8, ground := Ground.phase }, { on := 9, ground := Ground.phase }, { on := 10, ground := Ground.phase }, { on := 11, ground := Ground.phase }, { on := 12, ground := Ground.phase }, { on := 13, ground := Ground.phase }, { on := 14, ground := Ground.phase }, { on := 15, ground := Ground.phase }, { on := 16, ground := Ground.phase }, { on := 17, ground := Ground.phase }, { on := 18, ground := Ground.phase }, { on := 19, ground := Ground.phase }], guard := none }) (v := ?vp23) rfl (by kernel_rfl) (by kernel_rfl) (by kernel_rfl) (by first | rfl | simp) (fun _ _ _ h => h) (Or.inl ⟨by rfl, ?hp23⟩) (fun h => by cases h) ?rp23
      case hp23 => (intro w _; go_simp; try with_reducible rfl)
      (try simp only [Act.put, List.setIfInBounds_toArray, List.set_cons_zero, List.set_cons_succ])
      refine wpLate_pure (i := 21) (oi := { dst := some 40, op := Op.fieldAddr 133 (Operand.tmp 39) 3, type := 0, pos := "ref.go:163", after := #[{ on := 20, ground := Ground.data }, { on := 0, ground := Ground.phase }, { on := 1, ground := Ground.phase }, { on := 2, ground := Ground.phase }, { on := 3, ground := Ground.phase }, { on := 4, ground := Ground.phase }, { on := 5, ground := Ground.phase }, { on := 6, ground := Ground.phase }, { on := 7, ground := Ground.phase }, { on := 8, ground := Ground.phase }, { on := 9, ground := Ground.phase }, { on := 10, ground := Ground.phase }, { on := 11, ground := Ground.phase }, { on := 12, ground := Ground.phase }, { on := 13, ground := Ground.phase }, { on := 14, ground := Ground.phase }, { on := 15, ground := Ground.phase }, { on := 16, ground := Ground.phase }, { on := 17, ground := Ground.phase }, { on := 18, ground := Ground.phase }, { on := 19, ground := Ground.phase }], guard := none }) (v := ?vp24) rfl (by kernel_rfl) (by kernel_rfl) (by kernel_rfl) (by first | rfl | simp) (fun _ _ _ h => h) (Or.inl ⟨by rfl, ?hp24⟩) (fun h => by cases h) ?rp24
      case hp24 => (intro w _; go_simp; try with_reducible rfl)
      (try simp only [Act.put, List.setIfInBounds_toArray, List.set_cons_zero, List.set_cons_succ])
      refine wpLate_all (rs := [22]) (by kernel_rfl) (by simp) ?_
      intro i hi
      simp only [List.mem_cons, List.not_mem_nil, or_false] at hi
      subst hi
      refine wpOp_do (oi := { dst := none, op := Op.store 61 (Operand.tmp 40) (Operand.tmp 36), type := 0, pos := "ref.go:163", after := #[{ on := 21, ground := Ground.data }, { on := 16, ground := Ground.data }, { on := 19, ground := Ground.chain }, { on := 0, ground := Ground.phase }, { on := 1, ground := Ground.phase }, { on := 2, ground := Ground.phase }, { on := 3, ground := Ground.phase }, { on := 4, ground := Ground.phase }, { on := 5, ground := Ground.phase }, { on := 6, ground := Ground.phase }, { on := 7, ground := Ground.phase }, { on := 8, ground := Ground.phase }, { on := 9, ground := Ground.phase }, { on := 10, ground := Ground.phase }, { on := 11, ground := Ground.phase }, { on := 12, ground := Ground.phase }, { on := 13, ground := Ground.phase }, { on := 14, ground := Ground.phase }, { on := 15, ground := Ground.phase }, { on := 16, ground := Ground.phase }, { on := 17, ground := Ground.phase }, { on := 18, ground := Ground.phase }, { on := 19, ground := Ground.phase }], guard := none }) rfl (by rfl) ?_
      go_simp
      refine wpLate_done (by kernel_rfl) ?_ _
      go_wp2
      go_end0
      exact ⟨rfl, _, _, HEND.out⟩
  · refine wpOp_do (oi := { dst := some 35, op := Op.buildSlice 61 1 #[(0, Operand.tmp 34)], type := 61, pos := "ref.go:163", after := #[{ on := 14, ground := Ground.data }], guard := none }) rfl (by rfl) ?_
    go_simp
    obtain ⟨w1, hwn⟩ : ∃ z, z = wd.alloc (Obj.cells #[Value.int IntKind.i64 cost] 3) := ⟨_, rfl⟩
    rw [← hwn]
    have HA1 := hid (HA0.out.setH2 (o := Obj.cells #[Value.int IntKind.i64 cost] 3) (cell_of_cells (k := 0) (heap_alloc_new _ _) rfl))
    obtain ⟨k2, hk15⟩ : ∃ z, z = wd.heap.size := ⟨_, rfl⟩
    rw [← hwn, ← hk15] at HA1
    have HBXw1 : Hid (Below w.heap.size w w1) := hid (by rw [hwn]; exact Below.grow HBX.out _)
    try rw [← hk15]
    clear hwn hk15
    (try simp only [Act.put, List.setIfInBounds_toArray, List.set_cons_zero, List.set_cons_succ])
    refine ⟨(by first | exact HCELL.out _ _ _ _ _ HA1.out | exact fun _ => HCELL.out _ _ _ _ _ HA1.out), ?_⟩
    refine wpLate_all (rs := [7]) (by kernel_rfl) (by simp) ?_
    intro i hi
    simp only [List.mem_cons, List.not_mem_nil, or_false] at hi
    subst hi
    refine wpOp_do (oi := { dst := some 27, op := Op.call { callee := Callee.value (Operand.func 63), args := #[Operand.tmp 26], argTypes := #[61] }, type := 61, pos := "ref.go:163", after := #[{ on := 6, ground := Ground.data }], guard := none }) rfl (by rfl) ?_
    go_simp
    refine (Try.slices_Clone_int bx ox 14 cx x w1 (by rw [H14.out]; exact Nat.le_refl _) (by omega) (range_cells (rangeAt_below HX.out HBXw1.out))).mono ?_
    rintro e w2 ⟨v', rfl, ho, -, hbn⟩
    obtain ⟨A3, c3, rfl, hA3⟩ := owned_form ho
    obtain ⟨g3, rfl, hge3, hlt3⟩ := hA3 (by omega)
    have HA2 := hid (HA1.out.setG (c := c3) hbn hge3 hlt3 (by have h1 := own_range ho; rwa [List.take_of_length_le (by rw [H14.out]; exact Nat.le_refl _)] at h1))
    clear ho hA3 hge3 hlt3 hbn
    refine ⟨(by first | exact HCELL.out _ _ _ _ _ HA2.out | exact fun _ => HCELL.out _ _ _ _ _ HA2.out), ?_⟩
    refine wpLate_all (rs := [8]) (by kernel_rfl) (by simp) ?_
    intro i hi
    simp only [List.mem_cons, List.not_mem_nil, or_false] at hi
    subst hi
    refine wpOp_do (oi := { dst := some 28, op := Op.buildSlice 36 1 #[(0, Operand.tmp 27)], type := 36, pos := "ref.go:163", after := #[{ on := 7, ground := Ground.data }], guard := none }) rfl (by rfl) ?_
    go_simp
    obtain ⟨w3, hwn⟩ : ∃ z, z = w2.alloc (Obj.cells #[Value.slice (some ⟨g3, 0, none⟩) 14 c3] 61) := ⟨_, rfl⟩
    rw [← hwn]
    have HA3 := hid (HA2.out.setH1 (o := Obj.cells #[Value.slice (some ⟨g3, 0, none⟩) 14 c3] 61) (cell_of_cells (k := 0) (heap_alloc_new _ _) rfl))
    obtain ⟨k1, hk8⟩ : ∃ z, z = w2.heap.size := ⟨_, rfl⟩
    rw [← hwn, ← hk8] at HA3
    try rw [← hk8]
    clear hwn hk8
    (try simp only [Act.put, List.setIfInBounds_toArray, List.set_cons_zero, List.set_cons_succ])
    refine ⟨(by first | exact HCELL.out _ _ _ _ _ HA3.out | exact fun _ => HCELL.out _ _ _ _ _ HA3.out), ?_⟩
    refine wpLate_all (rs := [9]) (by kernel_rfl) (by simp) ?_
    intro i hi
    simp only [List.mem_cons, List.not_mem_nil, or_false] at hi
    subst hi
    refine wpOp_do (oi := { dst := some 29, op := Op.call { callee := Callee.builtin Builtin.append, args := #[Operand.tmp 25, Operand.tmp 28], argTypes := #[36, 36] }, type := 36, pos := "ref.go:163", after := #[{ on := 5, ground := Ground.data }, { on := 8, ground := Ground.data }, { on := 7, ground := Ground.chain }], guard := none }) rfl (by rfl) ?_
    refine wp_append_lies _ _ _ _ rfl (r + 1) 61 i1 _ 1 24 Try.underlying36 HI1.out HY0.out HY1.out HY2.out rfl (by omega) (.slice LA log.length lc) log.length hdrs (by rfl) (HA3.out.rowL rfl) ⟨k1, 0, none⟩ 1 1 [.slice (some ⟨g3, 0, none⟩) 14 c3] (by rfl) rfl (news_one HA3.out.news1) (by simp [Value.oneCell']) (by omega) (by have := HL.out; unfold maxLen; omega) (by have := HL.out; omega) (by have := HA3.out.only.size; have := HLT.out; omega) _ rfl ?_
    intro g8 cap8 w4 ho8 hg8 ha8 hl8
    have HA4 := hid (HA3.out.setV HVL.out HAP.out ho8 hg8 ha8 hl8)
    clear ho8 hg8 ha8 hl8
    (try simp only [Act.put, List.setIfInBounds_toArray, List.set_cons_zero, List.set_cons_succ])
    refine ⟨(by first | exact HCELL.out _ _ _ _ _ HA4.out | exact fun _ => HCELL.out _ _ _ _ _ HA4.out), ?_⟩
    refine wpLate_all (rs := [16]) (by kernel_rfl) (by simp) ?_
    intro i hi
    simp only [List.mem_cons, List.not_mem_nil, or_false] at hi
    subst hi
    refine wpOp_do (oi := { dst := some 36, op := Op.call { callee := Callee.builtin Builtin.append, args := #[Operand.tmp 33, Operand.tmp 35], argTypes := #[61, 61] }, type := 61, pos := "ref.go:163", after := #[{ on := 13, ground := Ground.data }, { on := 15, ground := Ground.data }, { on := 9, ground := Ground.chain }], guard := none }) rfl (by rfl) ?_
    refine wp_append_lies _ _ _ _ rfl (r + 1) 3 i2 _ 1 8 Try.underlying61 HI2.out HZ0.out HZ1.out HZ2.out rfl (by omega) (.slice CA cyc.length ec) cyc.length (icells cyc) (by rfl) HA4.out.rowC ⟨k2, 0, none⟩ 1 1 [Value.int IntKind.i64 cost] (by rfl) rfl (news_one (HA4.out.h2 k2 rfl).2) (by simp [Value.oneCell']) (by omega) (by have := HCL.out; unfold maxLen; omega) (by have := HCL.out; omega) (by have := HA4.out.only.size; have := HLT.out; omega) _ rfl ?_
    intro g9 cap9 w5 ho9 hg9 ha9 _
    have HEND := hid (radd_end HH.out H0.out HR.out HL.out H14.out HA4.out ho9 hg9 ha9)
    have HT3 := hid (radd_blk HH.out HA4.out hg9)
    clear ho9 hg9 ha9
    (try simp only [Act.put, List.setIfInBounds_toArray, List.set_cons_zero, List.set_cons_succ])
    have HQ : Hid (w5.cell? ⟨r, 2, none⟩ = some (.slice LA log.length lc) ∧ w5.cell? ⟨r, 3, none⟩ = some (.slice CA cyc.length ec)) := hid ⟨cell_of_cells (k := 2) HT3.out rfl, cell_of_cells (k := 3) HT3.out rfl⟩
    refine ⟨(by first | exact HQ.out | exact fun _ => HQ.out), ?_⟩
    refine wpLate_pure (i := 17) (oi := { dst := some 37, op := Op.nilCheck (Operand.tmp 20), type := 0, pos := "ref.go:163", after := #[{ on := 0, ground := Ground.data }, { on := 0, ground := Ground.phase }, { on := 1, ground := Ground.textOnly Departure.lateStores }, { on := 2, ground := Ground.phase }, { on := 3, ground := Ground.phase }, { on := 4, ground := Ground.phase }, { on := 5, ground := Ground.phase }, { on := 6, ground := Ground.phase }, { on := 7, ground := Ground.phase }, { on := 8, ground := Ground.phase }, { on := 9, ground := Ground.phase }, { on := 10, ground := Ground.textOnly Departure.lateStores }, { on := 11, ground := Ground.textOnly Departure.lateStoresUnsure }, { on := 12, ground := Ground.textOnly Departure.lateStoresUnsure }, { on := 13, ground := Ground.phase }, { on := 14, ground := Ground.textOnly Departure.lateStores }, { on := 15, ground := Ground.textOnly Departure.lateStoresUnsure }, { on := 16, ground := Ground.phase }], guard := none }) (v := ?vp25) rfl (by kernel_rfl) (by kernel_rfl) (by kernel_rfl) (by first | rfl | simp) (fun _ _ _ h => h) (Or.inl ⟨by rfl, ?hp25⟩) (fun _ => HQ.out) ?rp25
    case hp25 => (intro w _; go_simp; try with_reducible rfl)
    (try simp only [Act.put, List.setIfInBounds_toArray, List.set_cons_zero, List.set_cons_succ])
    refine wpLate_pure (i := 18) (oi := { dst := some 38, op := Op.fieldAddr 133 (Operand.tmp 37) 2, type := 0, pos := "ref.go:163", after := #[{ on := 17, ground := Ground.data }, { on := 0, ground := Ground.phase }, { on := 1, ground := Ground.textOnly Departure.lateStores }, { on := 2, ground := Ground.phase }, { on := 3, ground := Ground.phase }, { on := 4, ground := Ground.phase }, { on := 5, ground := Ground.phase }, { on := 6, ground := Ground.phase }, { on := 7, ground := Ground.phase }, { on := 8, ground := Ground.phase }, { on := 9, ground := Ground.phase }, { on := 10, ground := Ground.textOnly Departure.lateStores }, { on := 11, ground := Ground.textOnly Departure.lateStoresUnsure }, { on := 12, ground := Ground.textOnly Departure.lateStoresUnsure }, { on := 13, ground := Ground.phase }, { on := 14, ground := Ground.textOnly Departure.lateStores }, { on := 15, ground := Ground.textOnly Departure.lateStoresUnsure }, { on := 16, ground := Ground.phase }], guard := none }) (v := ?vp26) rfl (by kernel_rfl) (by kernel_rfl) (by kernel_rfl) (by first | rfl | simp) (fun _ _ _ h => h) (Or.inl ⟨by rfl, ?hp26⟩) (fun _ => HQ.out) ?rp26
    case hp26 => (intro w _; go_simp; try with_reducible rfl)
    (try simp only [Act.put, List.setIfInBounds_toArray, List.set_cons_zero, List.set_cons_succ])
    have hf2 := frozen_of_cells (k := 2) HT3.out
    have hc2 := HQ.out.1
    have hf3 := frozen_of_cells (k := 3) HT3.out
    have hc3 := HQ.out.2
    refine wpLate_all (rs := [19]) (by kernel_rfl) (by simp) ?_
    intro i hi
    simp only [List.mem_cons, List.not_mem_nil, or_false] at hi
    subst hi
    refine wpOp_do (oi := { dst := none, op := Op.store 36 (Operand.tmp 38) (Operand.tmp 29), type := 0, pos := "ref.go:163", after := #[{ on := 18, ground := Ground.data }, { on := 9, ground := Ground.data }, { on := 16, ground := Ground.chain }, { on := 0, ground := Ground.phase }, { on := 1, ground := Ground.textOnly Departure.lateStores }, { on := 2, ground := Ground.phase }, { on := 3, ground := Ground.phase }, { on := 4, ground := Ground.phase }, { on := 5, ground := Ground.phase }, { on := 6, ground := Ground.phase }, { on := 7, ground := Ground.phase }, { on := 8, ground := Ground.phase }, { on := 9, ground := Ground.phase }, { on := 10, ground := Ground.textOnly Departure.lateStores }, { on := 11, ground := Ground.textOnly Departure.lateStoresUnsure }, { on := 12, ground := Ground.textOnly Departure.lateStoresUnsure }, { on := 13, ground := Ground.phase }, { on := 14, ground := Ground.textOnly Departure.lateStores }, { on := 15, ground := Ground.textOnly Departure.lateStoresUnsure }, { on := 16, ground := Ground.phase }], guard := none }) rfl (by rfl) ?_
    go_simp
    refine wpLate_pure (i := 20) (oi := { dst := some 39, op := Op.nilCheck (Operand.tmp 21), type := 0, pos := "ref.go:163", after := #[{ on := 1, ground := Ground.data }, { on := 0, ground := Ground.phase }, { on := 1, ground := Ground.phase }, { on := 2, ground := Ground.phase }, { on := 3, ground := Ground.phase }, { on := 4, ground := Ground.phase }, { on := 5, ground := Ground.phase }, { on := 6, ground := Ground.phase }, { on := 7, ground := Ground.phase }, { on := 8, ground := Ground.phase }, { on := 9, ground := Ground.phase }, { on := 10, ground := Ground.phase }, { on := 11, ground := Ground.phase }, { on := 12, ground := Ground.phase }, { on := 13, ground := Ground.phase }, { on := 14, ground := Ground.phase }, { on := 15, ground := Ground.phase }, { on := 16, ground := Ground.phase }, { on := 17, ground := Ground.phase }, { on := 18, ground := Ground.phase }, { on := 19, ground := Ground.phase }], guard := none }) (v := ?vp27) rfl (by kernel_rfl) (by kernel_rfl) (by kernel_rfl) (by first | rfl | simp) (fun _ _ _ h => h) (Or.inl ⟨by rfl, ?hp27⟩) (fun h => by cases h) ?rp27
    case hp27 => (intro w _; go_simp; try with_reducible rfl)
    (try simp only [Act.put, List.setIfInBounds_toArray, List.set_cons_zero, List.set_cons_succ])
    refine wpLate_pure (i := 21) (oi := { dst := some 40, op := Op.fieldAddr 133 (Operand.tmp 39) 3, type := 0, pos := "ref.go:163", after := #[{ on := 20, ground := Ground.data }, { on := 0, ground := Ground.phase }, { on := 1, ground := Ground.phase }, { on := 2, ground := Ground.phase }, { on := 3, ground := Ground.phase }, { on := 4, ground := Ground.phase }, { on := 5, ground := Ground.phase }, { on := 6, ground := Ground.phase }, { on := 7, ground := Ground.phase }, { on := 8, ground := Ground.phase }, { on := 9, ground := Ground.phase }, { on := 10, ground := Ground.phase }, { on := 11, ground := Ground.phase }, { on := 12, ground := Ground.phase }, { on := 13, ground := Ground.phase }, { on := 14, ground := Ground.phase }, { on := 15, ground := Ground.phase }, { on := 16, ground := Ground.phase }, { on := 17, ground := Ground.phase }, { on := 18, ground := Ground.phase }, { on := 19, ground := Ground.phase }], guard := none }) (v := ?vp28) rfl (by kernel_rfl) (by kernel_rfl) (by kernel_rfl) (by first | rfl | simp) (fun _ _ _ h => h) (Or.inl ⟨by rfl, ?hp28⟩) (fun h => by cases h) ?rp28
    case hp28 => (intro w _; go_simp; try with_reducible rfl)
    (try simp only [Act.put, List.setIfInBounds_toArray, List.set_cons_zero, List.set_cons_succ])
    refine wpLate_all (rs := [22]) (by kernel_rfl) (by simp) ?_
    intro i hi
    simp only [List.mem_cons, List.not_mem_nil, or_false] at hi
    subst hi
    refine wpOp_do (oi := { dst := none, op := Op.store 61 (Operand.tmp 40) (Operand.tmp 36), type := 0, pos := "ref.go:163", after := #[{ on := 21, ground := Ground.data }, { on := 16, ground := Ground.data }, { on := 19, ground := Ground.chain }, { on := 0, ground := Ground.phase }, { on := 1, ground := Ground.phase }, { on := 2, ground := Ground.phase }, { on := 3, ground := Ground.phase }, { on := 4, ground := Ground.phase }, { on := 5, ground := Ground.phase }, { on := 6, ground := Ground.phase }, { on := 7, ground := Ground.phase }, { on := 8, ground := Ground.phase }, { on := 9, ground := Ground.phase }, { on := 10, ground := Ground.phase }, { on := 11, ground := Ground.phase }, { on := 12, ground := Ground.phase }, { on := 13, ground := Ground.phase }, { on := 14, ground := Ground.phase }, { on := 15, ground := Ground.phase }, { on := 16, ground := Ground.phase }, { on := 17, ground := Ground.phase }, { on := 18, ground := Ground.phase }, { on := 19, ground := Ground.phase }], guard := none }) rfl (by rfl) ?_
    go_simp
    refine wpLate_done (by kernel_rfl) ?_ _
    go_wp2
    go_end0
    exact ⟨rfl, _, _, HEND.out⟩
end Go.Proofs.Ytjefhconahdbiaa
