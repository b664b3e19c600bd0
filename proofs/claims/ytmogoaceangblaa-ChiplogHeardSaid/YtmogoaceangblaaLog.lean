/- Register logs ([][]int) as lists of lists of integers, and what the log is asked for: rows of 14 numbers from 0 to 255. Lemmas for arrays by value in the middle of a block. -/
import Derived.Test.YtmogoaceangblaaOpen
import Derived.Deep.MidRow
import Derived.Deep.LoopGhost
import Derived.OwnWalk
import Derived.Deep.OwnRows
namespace Go.Proofs.Ytmogoaceangblaa
open Go.RowKit

def icells (z : List Int) : List Value := z.map (Value.int .i64)
theorem icells_len (z : List Int) : (icells z).length = z.length := by simp [icells]
theorem icells_at {z : List Int} {j : Nat} {v : Int} (h : z[j]? = some v) : (icells z)[j]? = some (.int .i64 v) := by simp [icells, h]
theorem icells_one (z : List Int) : ∀ u ∈ icells z, u.oneCell' = true := by
  intro u hu
  simp only [icells, List.mem_map] at hu
  obtain ⟨x, _, rfl⟩ := hu
  rfl
theorem rangeAt_below {w w' : World} {b o : Nat} {cs : List Value} (h : w.rangeAt b o cs) (hb : Below w.heap.size w w') : w'.rangeAt b o cs :=
  fun j v hj => (hb.cell (World.block_lt_of_cell? w _ (h j v hj))).trans (h j v hj)
theorem rangeAt_below' {B : Nat} {w w' : World} {b o : Nat} {cs : List Value} (h : w.rangeAt b o cs) (hb : Below B w w') (hlt : b < B) : w'.rangeAt b o cs :=
  fun j v hj => (hb.cell hlt).trans (h j v hj)
theorem Below_setCells {B : Nat} {a : World} {b : Nat} (hb : B ≤ b) : ∀ (vs : List Value) (o : Nat) (w : World), Below B a w → Below B a (w.setCells b o vs)
  | [], _, _, h => h
  | v :: r, o, _, h => Below_setCells hb r (o + 1) _ (h.setCell (p := ⟨b, o, none⟩) hb v)
/-- A row of numbers at an address; an empty one may lie nowhere. -/
def IntsAt (w : World) (A : Option Addr) (z : List Int) : Prop := 0 < z.length → ∃ b off, A = some ⟨b, off, none⟩ ∧ w.rangeAt b off (icells z)
theorem IntsAt.below {w w' : World} {A : Option Addr} {z : List Int} (h : IntsAt w A z) (hb : Below w.heap.size w w') : IntsAt w' A z := by
  intro h0
  obtain ⟨b, off, e, hr⟩ := h h0
  exact ⟨b, off, e, rangeAt_below hr hb⟩
/-- A log: the cells of rows' headers, and the rows. -/
def LogAt (w : World) (A : Option Addr) (xs : List (List Int)) : Prop :=
  ∀ i, i < xs.length → ∃ b off B c z, A = some ⟨b, off, none⟩ ∧ xs[i]? = some z ∧ w.cell? ⟨b, off + i, none⟩ = some (.slice B z.length c) ∧ IntsAt w B z
theorem LogAt.below {w w' : World} {A : Option Addr} {xs : List (List Int)} (h : LogAt w A xs) (hb : Below w.heap.size w w') : LogAt w' A xs := by
  intro i hi
  obtain ⟨b, off, B, c, z, e, e2, h1, h2⟩ := h i hi
  exact ⟨b, off, B, c, z, e, e2, (hb.cell (World.block_lt_of_cell? w _ h1)).trans h1, h2.below hb⟩
/-- Entries: rows of 14 cells, one after another. -/
def EntAt (w : World) (A : Option Addr) (xs : List (List Int)) : Prop :=
  ∀ i z, xs[i]? = some z → z.length = 14 ∧ ∃ b, A = some ⟨b, 0, none⟩ ∧ w.rangeAt b (i * 14) (icells z)
theorem EntAt.below {w w' : World} {A : Option Addr} {xs : List (List Int)} (h : EntAt w A xs) (hb : Below w.heap.size w w') : EntAt w' A xs := by
  intro i z hz
  obtain ⟨hl, b, e, hr⟩ := h i z hz
  exact ⟨hl, b, e, rangeAt_below hr hb⟩
def right (z : List Int) : Bool := z.length == 14 && z.all fun v => inr v 0 255
def okLog (xs : List (List Int)) : Bool := decide (xs.length ≤ 4000) && xs.all right

section
variable {P : Program} {ops : Array Oper} {rest : List Oper} {o : Oper} {a : Act} {w : World} {Q : Exit → Act → World → Prop}
/-- make([][n]T, n): the exact world. -/
theorem wpList_make_rows (hg : o.guard = none) (l c : Operand) (t : TypeId) (hop : o.op = Op.makeSlice t l c)
    (e : TypeId) (i : TypeInfo) (z : Value) (size : Nat) (ht : P.underlying t = some (.slice e)) (hi : P.info? e = some i) (hz : i.zero = some z) (hsize : i.size = size)
    (kl kc : IntKind) (n : Nat) (hl : a.eval l = .int kl (n : Int)) (hc : a.eval c = .int kc (n : Int)) (hbytes : i.bytes * n ≤ 281474976710656) (h63 : n ≤ 9223372036854775807)
    (hK : wpList P ops Q rest (a.put o.dst (.slice (some ⟨w.heap.size, 0, none⟩) n n)) (w.alloc (.cells (madeCells z.cells (n * size)) e))) :
    wpList P ops Q (o :: rest) a w := by
  refine wpList_plain hg fun K hK' => ?_
  have hb' : (i.bytes : Int) * (n : Int) ≤ 281474976710656 := by
    have h : ((i.bytes * n : Nat) : Int) ≤ 281474976710656 := by omega
    rwa [Int.natCast_mul] at h
  have hr := run_make (P := P) w t e i z ht hi hz kl kc n n (by omega) (Int.le_refl _) hb' (by omega)
  simp only [Int.toNat_natCast, hsize] at hr
  unfold Oper.wp
  simp [execOp, hop, hl, hc, hr, Result.andThen]
  exact hK' _ _ hK
/-- A slice turned into a pointer to an array. -/
theorem wpList_array_at (hgd : o.guard = none) (ty : TypeId) (x : Operand) (ho : o.op = .sliceToArrayPointer ty x) (ad : Option Addr) (n c m : Nat) (e : TypeId)
    (hx : a.eval x = .slice ad n c) (hu : P.underlying ty = some (.array m e)) (hm : m ≤ n)
    (h : wpList P ops Q rest (a.put o.dst (.pointer ad)) w) : wpList P ops Q (o :: rest) a w :=
  wpList_plain hgd fun _ hK => by
    have hm' : ¬ n < m := by omega
    unfold Oper.wp execOp
    simp only [ho, hx, Instr.arrayAt, Sem.run_bind, run_underlying hu, Result.andThen_ok]
    simp only [hm', if_false, Sem.run_pure, Result.andThen_ok]
    exact hK _ _ h
end
theorem there_made (w : World) (z : Array Value) (n : Nat) (e : TypeId) (j m : Nat) (h : j + m ≤ n) : (w.alloc (.cells (madeCells z n) e)).there w.heap.size j m := by
  intro i hi
  have hn := heap_alloc_new w (.cells (madeCells z n) e)
  have hs : j + i < (madeCells z n).size := by rw [size_madeCells]; omega
  constructor
  · unfold World.cell?
    simp only []
    rw [hn]
    simpa using hs
  · unfold World.frozen?
    simp only []
    rw [hn]
    simp
theorem info75 : (Try.prog.info? 43).map (fun i => (i.zero, i.size, i.bytes)) = some (some (.agg #[.int .i64 0, .int .i64 0, .int .i64 0, .int .i64 0, .int .i64 0, .int .i64 0, .int .i64 0, .int .i64 0, .int .i64 0, .int .i64 0, .int .i64 0, .int .i64 0, .int .i64 0, .int .i64 0]), 14, 112) := by kernel_rfl
theorem size75 : (Try.prog.info? 43).map (·.size) = some 14 := by kernel_rfl
theorem info3 : (Try.prog.info? 3).map (fun i => (i.zero, i.size, i.bytes)) = some (some (.int .i64 0), 1, 8) := by kernel_rfl
theorem owned_form {w : World} {base : Nat} {e : TypeId} {sz n : Nat} {v : Value} {xs : List Value} (h : w.ownsRow base e sz v n xs) : ∃ A c, v = .slice A n c ∧ (0 < n → ∃ g, A = some ⟨g, 0, none⟩ ∧ base ≤ g ∧ g < w.heap.size) := by
  rcases h.2 with ⟨h', h0⟩ | ⟨g, cap, cur, h1, h2, h3, _⟩
  · subst h0; exact ⟨none, 0, h', fun h => by omega⟩
  · exact ⟨_, _, h1, fun _ => ⟨g, rfl, h2, by rw [Array.getElem?_eq_some_iff] at h3; exact h3.1⟩⟩
theorem owned_base {w : World} {base base' : Nat} {e : TypeId} {sz n : Nat} {v : Value} {xs : List Value} (h : w.ownsRow base e sz v n xs) (hb : base' ≤ base) : w.ownsRow base' e sz v n xs := by
  refine ⟨h.1, ?_⟩
  rcases h.2 with h' | ⟨g, cap, cur, h1, h2, h3⟩
  · exact Or.inl h'
  · exact Or.inr ⟨g, cap, cur, h1, by omega, h3⟩
theorem below_drewN {B : Nat} {a w : World} (h : Below B a w) (n : Nat) : Below B a (w.drewN n) := ⟨h.os, h.tape, h.output, h.size, h.block⟩
/-- What was made last lies there. -/
theorem range_made (w : World) (cs : Array Value) (e : TypeId) : (w.alloc (.cells cs e)).rangeAt w.heap.size 0 cs.toList := by
  intro j v hj
  have hn := heap_alloc_new w (.cells cs e)
  unfold World.cell?
  simp only []
  rw [hn]
  simpa using hj
theorem news_int (w : World) (v : Int) (e : TypeId) : ∀ j u, ([Value.int .i64 v])[j]? = some u → (w.alloc (.cells #[.int .i64 v] e)).cell? ((⟨w.heap.size, 0, none⟩ : Addr).add j) = some u := by
  intro j u hj
  rw [add_at _ rfl]
  exact range_made w #[.int .i64 v] e j u hj
end Go.Proofs.Ytmogoaceangblaa
