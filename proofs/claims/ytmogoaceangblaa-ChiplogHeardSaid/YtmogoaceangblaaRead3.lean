/- chiplog.read: what packed bytes are read to. -/
import Derived.Test.YtmogoaceangblaaRead2
namespace Go.Proofs.Ytmogoaceangblaa
open Go.RowKit

/-- How read ends. -/
def ReadTo (w : World) (A : Option Addr) (cc : Nat) (b : List Int) (r : Rd (List (List Int) × List Int × Nat)) (e : Ending) (w' : World) : Prop :=
  match r with
  | .inl er => ∃ p, e = .returned (.tuple #[p, .int .i64 er]) ∧ Below w.heap.size w w'
  | .inr s => ∃ t vl vc, e = .returned (.tuple #[.pointer (some ⟨t, 0, none⟩), .int .i64 0]) ∧ w.heap.size ≤ t ∧ TapeV w' t (.slice A b.length cc) s.2.2 s.1 s.2.1 vl vc ∧ Below w.heap.size w w'
def atOf (w : World) (t : Nat) : Nat := match w.cell? ⟨t, 1, none⟩ with | some v => (intOf v).toNat | none => 0
theorem TapeV.atOf {w : World} {t at_ : Nat} {sb vl vc : Value} {log : List (List Int)} {cyc : List Int} (h : TapeV w t sb at_ log cyc vl vc) : atOf w t = at_ := by
  unfold Ytmogoaceangblaa.atOf
  rw [cell_of_cells (k := 1) h.blk rfl]
  simp [intOf]
/-- What is left to read behind a byte c. -/
def goL (b : List Int) (f : Nat) (c : Int) (at_ : Nat) (log : List (List Int)) (cyc : List Int) : Rd (List (List Int) × List Int × Nat) :=
  if c = 0 then .inr (log, cyc, at_)
  else match cmdL b c at_ log cyc with
    | .inl e => .inl e
    | .inr (a, l, k) => readL b f a l k
theorem readL_goL {b : List Int} {a f : Nat} {v : Int} {l : List (List Int)} {k : List Int} (h : b[a]? = some v) : readL b (f + 1) a l k = goL b f v (a + 1) l k := by rw [readL, h]; rfl
theorem readL_none {b : List Int} {a f : Nat} {l : List (List Int)} {k : List Int} (h : b[a]? = none) : readL b f a l k = .inl 12 := by
  cases f with
  | zero => rfl
  | succ f => rw [readL, h]
/-- What holds of memory while read goes on. -/
structure Mid (w : World) (t be ba : Nat) (A : Option Addr) (cc : Nat) (b : List Int) (at_ : Nat) (log : List (List Int)) (cyc : List Int) (vl vc : Value) (wr : World) : Prop where
  tape : TapeV wr t (.slice A b.length cc) at_ log cyc vl vc
  below : Below w.heap.size w wr
  reads : Reads wr t A b
  err : wr.heap[be]? = some (.cells #[.int .i64 0] 25 (0, 0))
  cmds : wr.heap[ba]? = some (.cells cmdCells.toArray 67 (0, 0))
  notCmds : ¬ Own t vl vc ba
  ge : w.heap.size ≤ t
  lt : be < t
  geE : w.heap.size ≤ be
theorem Mid.step {w wr w' : World} {t be ba : Nat} {A : Option Addr} {cc : Nat} {b : List Int} {at_ at2 : Nat} {log log2 : List (List Int)} {cyc cyc2 : List Int} {vl vc vl2 vc2 : Value} {O : Nat → Prop}
    (m : Mid w t be ba A cc b at_ log cyc vl vc wr) (ho : Only O wr w') (hO : ∀ q, O q → t ≤ q) (hba : ¬ O ba) (ht : TapeV w' t (.slice A b.length cc) at2 log2 cyc2 vl2 vc2) (hown : ∀ q, Own t vl2 vc2 q → Own t vl vc q ∨ wr.heap.size ≤ q) :
    Mid w t be ba A cc b at2 log2 cyc2 vl2 vc2 w' :=
  have hbe : be < wr.heap.size := (Array.getElem?_eq_some_iff.1 m.err).1
  have hb : ba < wr.heap.size := (Array.getElem?_eq_some_iff.1 m.cmds).1
  ⟨ht, Only.below m.below ho (fun q hq => Nat.le_trans m.ge (hO q hq)) m.below.size, m.reads.only ho hO, (ho.block be hbe (fun h => by have := hO _ h; have := m.lt; omega)).trans m.err, (ho.block ba hb hba).trans m.cmds,
    fun h => by rcases hown ba h with h1 | h1; exact m.notCmds h1; omega, m.ge, m.lt, m.geE⟩
theorem Mid.own {w wr w' : World} {t be ba : Nat} {A : Option Addr} {cc : Nat} {b : List Int} {at_ at2 : Nat} {log log2 : List (List Int)} {cyc cyc2 : List Int} {vl vc vl2 vc2 : Value}
    (m : Mid w t be ba A cc b at_ log cyc vl vc wr) (ho : Only (Own t vl vc) wr w') (ht : TapeV w' t (.slice A b.length cc) at2 log2 cyc2 vl2 vc2) (hown : ∀ q, Own t vl2 vc2 q → Own t vl vc q ∨ wr.heap.size ≤ q) :
    Mid w t be ba A cc b at2 log2 cyc2 vl2 vc2 w' := m.step ho (own_le m.tape) m.notCmds ht hown
theorem Mid.newer {w wr w' : World} {t be ba : Nat} {A : Option Addr} {cc : Nat} {b : List Int} {at_ : Nat} {log : List (List Int)} {cyc : List Int} {vl vc : Value}
    (m : Mid w t be ba A cc b at_ log cyc vl vc wr) (hb : Below wr.heap.size wr w') : Mid w t be ba A cc b at_ log cyc vl vc w' :=
  m.step (O := fun _ => False) (Only.ofBelow hb) (fun _ h => h.elim) id (m.tape.below hb) (fun _ h => Or.inl h)
/-- The cell of read's c. -/
structure CellC (t bc : Nat) (vl vc : Value) (c : Int) (wr : World) : Prop where
  cell : wr.heap[bc]? = some (.cells #[.int .i64 c] 3 (0, 0))
  apart : ¬ Own t vl vc bc
theorem CellC.new {w wr : World} {t be ba : Nat} {A : Option Addr} {cc : Nat} {b : List Int} {at_ : Nat} {log : List (List Int)} {cyc : List Int} {vl vc : Value}
    (m : Mid w t be ba A cc b at_ log cyc vl vc wr) (c : Int) : CellC t wr.heap.size vl vc c (wr.alloc (.cells #[.int .i64 c] 3)) :=
  ⟨heap_alloc_new _ _, fun h => by have := (m.tape.own_ge _ h).2; omega⟩
theorem CellC.newer {wr w' : World} {t bc : Nat} {vl vc : Value} {c : Int} (m : CellC t bc vl vc c wr) (hb : Below wr.heap.size wr w') : CellC t bc vl vc c w' :=
  ⟨(hb.block _ (Array.getElem?_eq_some_iff.1 m.cell).1).trans m.cell, m.apart⟩
theorem CellC.own {wr w' : World} {t bc : Nat} {vl vc vl2 vc2 : Value} {c : Int} (m : CellC t bc vl vc c wr) (ho : Only (Own t vl vc) wr w') (hown : ∀ q, Own t vl2 vc2 q → Own t vl vc q ∨ wr.heap.size ≤ q) : CellC t bc vl2 vc2 c w' :=
  have hb := (Array.getElem?_eq_some_iff.1 m.cell).1
  ⟨(ho.block _ hb m.apart).trans m.cell, fun h => by rcases hown _ h with h1 | h1; exact m.apart h1; omega⟩
theorem Mid.set {w wr : World} {t be ba bc : Nat} {A : Option Addr} {cc : Nat} {b : List Int} {at_ : Nat} {log : List (List Int)} {cyc : List Int} {vl vc : Value} {c : Int}
    (m : Mid w t be ba A cc b at_ log cyc vl vc wr) (h : CellC t bc vl vc c wr) (hb : ba ≠ bc) (hbt : t ≤ bc) (v : Int) :
    Mid w t be ba A cc b at_ log cyc vl vc (wr.setCell ⟨bc, 0, none⟩ (.int .i64 v)) ∧ CellC t bc vl vc v (wr.setCell ⟨bc, 0, none⟩ (.int .i64 v)) :=
  ⟨m.step (O := fun q => q = bc) ((Only.refl _ wr).set _ (Or.inl rfl)) (fun q hq => hq ▸ hbt) hb
    (m.tape.same fun q hq => heap_setCell_other wr ⟨bc, 0, none⟩ q _ (fun e => h.apart (by have e' : q = bc := e; rw [← e']; exact hq))) (fun _ h => Or.inl h),
   ⟨by have h1 := heap_setCell_same wr bc 0 _ 3 (.int .i64 v) h.cell; simpa using h1, h.apart⟩⟩
theorem enter93 (args : Array Value) (w : World) : (callFunc 32 args).run Try.prog w = .ok (.enter 32 args) w := by kernel_rfl
theorem enter94 (args : Array Value) (w : World) : (callFunc 33 args).run Try.prog w = .ok (.enter 33 args) w := by kernel_rfl
theorem enter95 (args : Array Value) (w : World) : (callFunc 34 args).run Try.prog w = .ok (.enter 34 args) w := by kernel_rfl
theorem enter96 (args : Array Value) (w : World) : (callFunc 35 args).run Try.prog w = .ok (.enter 35 args) w := by kernel_rfl
theorem enter_do (i : Nat) (hi : i ≤ 3) (args : Array Value) (w : World) : (callFunc (doAt i) args).run Try.prog w = .ok (.enter (doAt i) args) w := by
  have h4 : i = 0 ∨ i = 1 ∨ i = 2 ∨ i = 3 := by omega
  rcases h4 with rfl | rfl | rfl | rfl
  · exact enter93 args w
  · exact enter94 args w
  · exact enter95 args w
  · exact enter96 args w
theorem Mid.done {w wr : World} {t be ba : Nat} {A : Option Addr} {cc : Nat} {b : List Int} {at_ : Nat} {log : List (List Int)} {cyc : List Int} {vl vc : Value}
    (m : Mid w t be ba A cc b at_ log cyc vl vc wr) (v : Int) : TapeV (wr.setCell ⟨be, 0, none⟩ (.int .i64 v)) t (.slice A b.length cc) at_ log cyc vl vc ∧ Below w.heap.size w (wr.setCell ⟨be, 0, none⟩ (.int .i64 v)) ∧ (wr.setCell ⟨be, 0, none⟩ (.int .i64 v)).cell? ⟨be, 0, none⟩ = some (.int .i64 v) := by
  have hs := heap_setCell_same wr be 0 _ 25 (.int .i64 v) m.err
  refine ⟨m.tape.same fun q hq => heap_setCell_other wr ⟨be, 0, none⟩ q _ (fun e => ?_), Only.below m.below ((Only.refl (fun q => q = be) wr).set _ (Or.inl rfl)) (fun q hq => hq ▸ m.geE) m.below.size, ?_⟩
  · have h1 := own_le m.tape q hq
    have h2 := m.lt
    have e' : q = be := e
    omega
  · exact cell_of_cells hs (by simp)
theorem Mid.fell {w wr w' : World} {t be ba : Nat} {A : Option Addr} {cc : Nat} {b : List Int} {at_ : Nat} {log : List (List Int)} {cyc : List Int} {vl vc : Value}
    (m : Mid w t be ba A cc b at_ log cyc vl vc wr) (ho : Only (Own t vl vc) wr w') (er : Int) :
    w'.cell? ⟨be, 0, none⟩ = some (.int .i64 0) ∧ w'.frozen? ⟨be, 0, none⟩ = false ∧ Below w.heap.size w (w'.setCell ⟨be, 0, none⟩ (.int .i64 er)) ∧ (w'.setCell ⟨be, 0, none⟩ (.int .i64 er)).cell? ⟨be, 0, none⟩ = some (.int .i64 er) := by
  have hbe : be < wr.heap.size := (Array.getElem?_eq_some_iff.1 m.err).1
  have he : w'.heap[be]? = some (.cells #[.int .i64 0] 25 (0, 0)) := (ho.block be hbe (fun h => by have := own_le m.tape _ h; have := m.lt; omega)).trans m.err
  have hs := heap_setCell_same w' be 0 _ 25 (.int .i64 er) he
  have hb' : Below w.heap.size w w' := Only.below m.below ho (fun q hq => Nat.le_trans m.ge (own_le m.tape q hq)) m.below.size
  exact ⟨cell_of_cells he rfl, frozen_of_cells he, Only.below hb' ((Only.refl (fun q => q = be) w').set _ (Or.inl rfl)) (fun q hq => hq ▸ m.geE) hb'.size, cell_of_cells hs (by simp)⟩
set_option maxHeartbeats 4000000 in
set_option maxRecDepth 100000 in
theorem read_go (w : World) (A : Option Addr) (cc : Nat) (b : List Int) (hA : BytesAt w A b) (hs : ∀ p o, A = some ⟨p, o, none⟩ → p < w.heap.size) (hr : ∀ v ∈ b, 0 ≤ v ∧ v < 256) (hl : b.length ≤ 400000) (c0 : Int) (hc0 : b[0]? = some c0) :
    Calls Try.prog 16 #[.slice A b.length cc] w (ReadTo w A cc b (goL b b.length c0 1 [] [])) := by
  have hmf : ∀ (fn : Fn) (first cap : Array Value) (w : World), (Instr.makeFunc fn first cap).run Try.prog w = .ok (.func fn first cap) w := fun _ _ _ _ => rfl
  obtain ⟨w0, hw0⟩ : ∃ z, z = ((w.alloc (.cells #[.int .i64 0] 25)).alloc (.cells #[.slice A b.length cc, .int .i64 0, .slice none 0 0, .slice none 0 0] 49)) := ⟨_, rfl⟩
  have hsz0 : w0.heap.size = w.heap.size + 2 := by rw [hw0]; simp
  have HB0 : Hid (Below w.heap.size w w0) := hid (by rw [hw0]; exact Below.grow (Below.grow (Below.refl _ _) _) _)
  have hs1 : (w.alloc (.cells #[.int .i64 0] 25)).heap.size = w.heap.size + 1 := by simp
  have HE0 : Hid (w0.heap[w.heap.size]? = some (.cells #[.int .i64 0] 25 (0, 0))) := hid (by rw [hw0]; exact ((Below.grow (Below.refl _ _) _).block _ (by omega)).trans (heap_alloc_new w _))
  have HT0 : Hid (TapeV w0 (w.heap.size + 1) (.slice A b.length cc) 0 [] [] (.slice none 0 0) (.slice none 0 0)) := hid
    ⟨by rw [hw0, ← hs1]; exact heap_alloc_new _ _, ⟨by simp [flat], Or.inl ⟨rfl, rfl⟩⟩, ⟨by simp [icells], Or.inl ⟨rfl, rfl⟩⟩, by simp [Value.ownBlock], by simp, rfl, by simp⟩
  have HR0 : Hid (Reads w0 (w.heap.size + 1) A b) := hid
    ⟨fun h0 => by
      obtain ⟨p, o, e, hc⟩ := hA h0
      refine ⟨p, o, e, fun i hi => ?_⟩
      rw [HB0.out.cell (p := ⟨p, o + i, none⟩) (hs p o e)]
      exact hc i hi, fun p o e => Nat.lt_succ_of_lt (hs p o e), hr, hl⟩
  have HC0 := hid hc0
  have hr0 := hr c0 (List.mem_of_getElem? hc0)
  have hle : decide (400000 < b.length) = false := decide_eq_false (by omega)
  clear hA hs hr hc0
  go_enter_defers Try.func16, Try.ntmps16
  go_wp2_with fail
  rw [← hw0]
  refine (tcommands _).mono ?_
  rintro e w1 ⟨rfl, hb1⟩
  have HB1 := hid hb1
  rw [show (Value.agg cmdCells.toArray) = .agg #[.int .i64 127, .func (.func 32) #[] #[], .int .i64 191, .func (.func 33) #[] #[], .int .i64 192, .func (.func 34) #[] #[], .int .i64 255, .func (.func 35) #[] #[]] from rfl]
  clear hb1 hs1
  go_wp2_with fail
  obtain ⟨w2, hw2⟩ : ∃ z, z = w1.alloc (Obj.cells #[.int .i64 127, .func (.func 32) #[] #[], .int .i64 191, .func (.func 33) #[] #[], .int .i64 192, .func (.func 34) #[] #[], .int .i64 255, .func (.func 35) #[] #[]] 67) := ⟨_, rfl⟩
  obtain ⟨t, ht⟩ : ∃ t, t = w.heap.size + 1 := ⟨_, rfl⟩
  obtain ⟨be, hbe⟩ : ∃ t, t = w.heap.size := ⟨_, rfl⟩
  obtain ⟨ba, hba⟩ : ∃ t, t = w1.heap.size := ⟨_, rfl⟩
  have HB2 : Hid (Below w0.heap.size w0 w2) := hid (by rw [hw2]; exact Below.grow HB1.out _)
  have HM : Hid (Mid w t be ba A cc b 0 [] [] (.slice none 0 0) (.slice none 0 0) w2) := hid
    ⟨by rw [ht]; exact HT0.out.below HB2.out, Below.step HB0.out HB2.out, by rw [ht]; exact HR0.out.only (O := fun _ => False) (Only.ofBelow HB2.out) (fun _ h => h.elim),
     by rw [hbe]; exact (HB2.out.block _ (by omega)).trans HE0.out, by rw [hw2, hba]; exact heap_alloc_new _ _,
     fun h => by
      have h1 := HB1.out.size
      rcases h with h | h | h
      · omega
      · simp [Value.ownBlock] at h
      · simp [Value.ownBlock] at h, by omega, by omega, by omega⟩
  rw [← hw2, ← ht, ← hbe, ← hba]
  clear hw2 ht hbe hba hw0 HB2 HB1 HB0 HT0 HR0 HE0 hsz0
  refine (tnext_ok _ t A cc b 0 [] [] _ _ c0 HM.out.tape HM.out.reads.bytes HM.out.reads.sep HC0.out hr0 HM.out.reads.le).mono ?_
  rintro e w3 ⟨rfl, ht, ho⟩
  have HM3 := hid (HM.out.own ho ht (fun _ h => Or.inl h))
  clear ht ho HM
  go_wp2_with fail
  obtain ⟨w4, hw4⟩ : ∃ z, z = w3.alloc (Obj.cells #[.int .i64 c0] 3) := ⟨_, rfl⟩
  obtain ⟨bc, hbc⟩ : ∃ z, z = w3.heap.size := ⟨_, rfl⟩
  have HM4 : Hid (Mid w t be ba A cc b 1 [] [] (.slice none 0 0) (.slice none 0 0) w4) := hid (by rw [hw4]; exact HM3.out.newer (Below.grow (Below.refl _ _) _))
  have HC4 : Hid (CellC t bc (.slice none 0 0) (.slice none 0 0) c0 w4) := hid (by rw [hw4, hbc]; exact CellC.new HM3.out c0)
  have hl1 := (List.getElem?_eq_some_iff.1 HC0.out).1
  rw [← hw4, ← hbc]
  clear hw4 hbc HM3
  go_loopw [5] (fun p wr => ∃ (bc at_ f : Nat) (log : List (List Int)) (cyc : List Int) (vl vc : Value) (c : Int), p = .pointer (some ⟨bc, 0, none⟩) ∧ at_ ≤ b.length ∧ b.length + 1 ≤ f + at_ ∧ 0 ≤ c ∧ c ≤ 255 ∧ Hid (goL b b.length c0 1 [] [] = goL b f c at_ log cyc) ∧ Hid (Mid w t be ba A cc b at_ log cyc vl vc wr) ∧ Hid (CellC t bc vl vc c wr)) (fun _ wr => b.length - atOf wr t)
  case atStart => exact ⟨bc, 1, b.length, [], [], _, _, c0, rfl, hl1, by omega, hr0.1, by omega, hid rfl, HM4, HC4⟩
  case round =>
    obtain ⟨bc, at_, f, log, cyc, vl, vc, c, rfl, hat, hf, hc0, hc5, HU, HM, HC⟩ := hrel
    clear HM4 HC4 hl1
    have hcc := cell_of_cells (k := 0) HC.out.cell rfl
    by_cases hcz : c = 0
    · have hne : (c != 0) = false := by rw [hcz]; rfl
      have HR : Hid (goL b f c at_ log cyc = .inr (log, cyc, at_)) := hid (by unfold goL; rw [if_pos hcz])
      have hce := cell_of_cells (k := 0) HM.out.err rfl
      have hfe := frozen_of_cells (k := 0) HM.out.err
      clear hcz
      go_wp2
      refine leaves_cons (f := 24) (args := #[.pointer (some ⟨be, 0, none⟩)]) (by simp) (by simp [go_sem]) ?_
      refine (catch_idle be _).mono ?_
      rintro e u' w'' ⟨rfl, rfl, rfl⟩
      obtain ⟨h1, h2, h3⟩ := HM.out.done 0
      simp only [Leaves, settle]
      refine ⟨.tuple #[.pointer (some ⟨t, 0, none⟩), .int .i64 0], by simp [results, Try.results16, go_sem, h3], ?_⟩
      unfold ReadTo
      rw [HU.out, HR.out]
      exact ⟨t, vl, vc, rfl, HM.out.ge, h1, h2⟩
    · have hne : (c != 0) = true := by simpa using hcz
      go_wp2_with fail
      refine (tfind _ ba bc c hc5 HM.out.cmds hcc).mono ?_
      rintro e wa ⟨rfl, hb⟩
      have HMa := hid (HM.out.newer hb)
      have HCa := hid (HC.out.newer hb)
      have HW : Hid (atOf wr t = at_) := hid HM.out.tape.atOf
      clear HM HC hb hcc
      have hi3 : idxOf c ≤ 3 := by unfold idxOf; split; omega; split; omega; split <;> omega
      have HCMD : Hid (Calls Try.prog (doAt (idxOf c)) #[.pointer (some ⟨t, 0, none⟩), .int .i64 c] wa.drew (TapeTo wa.drew t (.slice A b.length cc) vl vc (cmdL b c at_ log cyc))) :=
        hid (cmd_any wa.drew t A cc b at_ log cyc vl vc c (HMa.out.newer (Below.refl _ _).drew).tape (HMa.out.newer (Below.refl _ _).drew).reads hat hc0 hc5)
      obtain ⟨i, hi⟩ : ∃ i, i = idxOf c := ⟨_, rfl⟩
      have hcf : wa.drew.cell? ⟨ba, i * 2 + 1, none⟩ = some (fnV (doAt i)) := by
        refine cell_of_cells (HMa.out.newer (Below.refl _ _).drew).cmds ?_
        rw [← hi] at hi3
        have h4 : i = 0 ∨ i = 1 ∨ i = 2 ∨ i = 3 := by omega
        rcases h4 with rfl | rfl | rfl | rfl <;> rfl
      have hcc := cell_of_cells (k := 0) (HCa.out.newer (Below.refl _ _).drew).cell rfl
      rw [← hi] at HCMD hi3
      rw [← hi]
      have hent := enter_do i hi3
      obtain ⟨F, hF⟩ : ∃ F, F = doAt i := ⟨_, rfl⟩
      rw [← hF] at hent
      rw [← hF] at HCMD hcf
      unfold fnV at hcf
      have hi0 : (0 : Int) ≤ (i : Int) := by omega
      have hi4 : (i : Int) < 4 := by omega
      clear hi hF hi3
      go_wp2_with fail
      refine wp_region_still_tail 6 (by kernel_rfl) (by kernel_rfl) ?_
      simp only [List.take_succ_cons, List.take_zero, List.drop_succ_cons, List.drop_zero]
      have HMD := hid (HMa.out.newer (Below.refl _ _).drew)
      have HCD := hid (HCa.out.newer (Below.refl _ _).drew)
      obtain ⟨wd, hwd⟩ : ∃ z, z = wa.drew := ⟨_, rfl⟩
      have hww : ({ wa with drawn := wa.drawn + 1 } : World) = wd := hwd.symm
      rw [hww]
      rw [← hwd] at HCMD hcf hcc HMD HCD
      clear hww hwd HMa HCa
      repeat still_step
      refine wpStill_nil ?_
      go_wp2_with fail
      refine HCMD.out.mono ?_
      intro e w5 hto
      have hcat := fun s (h : cmdL b c at_ log cyc = .inr s) => cmdL_at h hat
      cases hp : cmdL b c at_ log cyc with
      | inl er =>
        rw [hp] at hto
        obtain ⟨rfl, ho⟩ := hto
        have HR : Hid (goL b f c at_ log cyc = .inl er) := hid (by unfold goL; rw [if_neg hcz, hp])
        obtain ⟨h1, h2, h3, h4⟩ := HMD.out.fell ho er
        refine (show bodyPostD Try.prog Try.f16 (ReadTo w A cc b (goL b b.length c0 1 [] [])) (Exit.panic (errno er)) _ w5 from ?_)
        refine leaves_cons (f := 24) (args := #[.pointer (some ⟨be, 0, none⟩)]) (by simp) (by simp [go_sem]) ?_
        refine (catch_panic be 0 er _ h1 h2).mono ?_
        rintro e u' w'' ⟨rfl, rfl, rfl⟩
        simp only [Leaves, settle, List.dropWhile_nil]
        refine ⟨.tuple #[.pointer (some ⟨t, 0, none⟩), .int .i64 er], by simp [results, Try.results16, go_sem, h4], ?_⟩
        unfold ReadTo
        rw [HU.out, HR.out]
        exact ⟨_, rfl, h3⟩
      | inr s =>
        obtain ⟨a, l2, k2⟩ := s
        obtain ⟨ha1, ha2⟩ := hcat _ hp
        rw [hp] at hto
        obtain ⟨rfl, vl2, vc2, ht2, ho, hw2⟩ := hto
        have HM5 := hid (HMD.out.own ho ht2 hw2)
        have HC5 := hid (HCD.out.own ho hw2)
        have HR : Hid (goL b f c at_ log cyc = readL b f a l2 k2) := hid (by unfold goL; rw [if_neg hcz, hp])
        simp only at ha1 ha2
        have hcc5 := cell_of_cells (k := 0) HC5.out.cell rfl
        clear ht2 ho hw2 hp HCMD hcf hcc HMD HCD hcat hent
        refine (show _ from ?_)
        go_wp2_with fail
        obtain ⟨w6, hw6⟩ : ∃ z, z = w5.alloc (Obj.cells #[.int .i64 c] 3) := ⟨_, rfl⟩
        obtain ⟨bd, hbd⟩ : ∃ z, z = w5.heap.size := ⟨_, rfl⟩
        have HM6 : Hid (Mid w t be ba A cc b a l2 k2 vl2 vc2 w6) := hid (by rw [hw6]; exact HM5.out.newer (Below.grow (Below.refl _ _) _))
        have HC6 : Hid (CellC t bd vl2 vc2 c w6) := hid (by rw [hw6, hbd]; exact CellC.new HM5.out c)
        have hbt : t ≤ bd := by have := HM5.out.tape.lt; omega
        have hbb : ba ≠ bd := by have := (Array.getElem?_eq_some_iff.1 HM5.out.cmds).1; omega
        rw [← hw6, ← hbd]
        clear hw6 hbd HM5 HC5 hcc5
        cases hv : b[a]? with
        | none =>
          have hea : a = b.length := by have := List.getElem?_eq_none_iff.1 hv; omega
          have HRN : Hid (readL b f a l2 k2 = .inl 12) := hid (readL_none hv)
          subst hea
          refine (tnext_end _ t A cc b l2 k2 vl2 vc2 HM6.out.tape).mono ?_
          rintro e w7 ⟨rfl, ho⟩
          obtain ⟨h1, h2, h3, h4⟩ := HM6.out.fell ho 12
          refine (show bodyPostD Try.prog Try.f16 (ReadTo w A cc b (goL b b.length c0 1 [] [])) (Exit.panic (errno 12)) _ w7 from ?_)
          refine leaves_cons (f := 24) (args := #[.pointer (some ⟨be, 0, none⟩)]) (by simp) (by simp [go_sem]) ?_
          refine (catch_panic be 0 12 _ h1 h2).mono ?_
          rintro e u' w'' ⟨rfl, rfl, rfl⟩
          simp only [Leaves, settle, List.dropWhile_nil]
          refine ⟨.tuple #[.pointer (some ⟨t, 0, none⟩), .int .i64 12], by simp [results, Try.results16, go_sem, h4], ?_⟩
          unfold ReadTo
          rw [HU.out, HR.out, HRN.out]
          exact ⟨_, rfl, h3⟩
        | some v =>
          have hvr := HM6.out.reads.rng v (List.mem_of_getElem? hv)
          have hal := (List.getElem?_eq_some_iff.1 hv).1
          have HV := hid hv
          obtain ⟨f', rfl⟩ : ∃ f', f = f' + 1 := ⟨f - 1, by omega⟩
          have HRS : Hid (readL b (f' + 1) a l2 k2 = goL b f' v (a + 1) l2 k2) := hid (readL_goL hv)
          clear hv
          refine (tnext_ok _ t A cc b a l2 k2 vl2 vc2 v HM6.out.tape HM6.out.reads.bytes HM6.out.reads.sep HV.out hvr HM6.out.reads.le).mono ?_
          rintro e w7 ⟨rfl, ht, ho⟩
          have HM7 := hid (HM6.out.own ho ht (fun _ h => Or.inl h))
          have HC7 := hid (HC6.out.own ho (fun _ h => Or.inl h))
          clear ht ho HM6 HC6
          have hcc7 := cell_of_cells (k := 0) HC7.out.cell rfl
          have hcf7 := frozen_of_cells (k := 0) HC7.out.cell
          go_wp2
          go_roundw
          case rel =>
            obtain ⟨h8, g8⟩ := HM7.out.set HC7.out hbb hbt v
            exact ⟨bd, a + 1, f', l2, k2, vl2, vc2, v, rfl, by omega, by omega, hvr.1, by omega, hid (by rw [HU.out, HR.out, HRS.out]), hid h8, hid g8⟩
          case measure =>
            obtain ⟨h8, g8⟩ := HM7.out.set HC7.out hbb hbt v
            rw [h8.tape.atOf, HW.out]
            omega
end Go.Proofs.Ytmogoaceangblaa
