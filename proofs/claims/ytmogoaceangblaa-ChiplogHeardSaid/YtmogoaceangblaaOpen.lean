/- Lemmas that open the arguments of a law: the fields of a struct that reads, the cells of a slice's elements. -/
import Derived.Test.YtmogoaceangblaaBase
import Derived.ProofKit
import Derived.OpenShut
import Derived.Carry
import Derived.Deep.Slices
namespace Go.Proofs.Ytmogoaceangblaa
open Go.RowKit
theorem take_drop_one {cs : List Value} {o : Nat} {v : Value} (h : (cs.drop o).take 1 = [v]) : cs[o]? = some v := by
  have : ((cs.drop o).take 1)[0]? = some v := by rw [h]; rfl
  rw [List.getElem?_take, if_pos (by omega), List.getElem?_drop] at this
  exact this
theorem cell_spot {w : World} {a : Addr} {v : Value} (h : w.cell? a = some v) : a.spot = none := by
  unfold World.cell? at h
  split at h
  · split at h
    · cases h
    · rename_i hs; simpa using hs
  · cases h
/-- An integer among the fields of a struct that reads. -/
theorem field_int {H : Type} {enc : TypeId × Value → H} {P : Program} {w : World} {base : Nat} {spare : Nat → Bool} {held : Bool} {fuel : Nat} {t : TypeId} {fs : Array Field} {cs : List Value} {x : DataW H × List MemPlace} {k : IntKind}
    (ht : P.underlying t = some (.struct fs)) (h : DataW.trod enc P w base spare held fuel t cs = some x) (i ft off : Nat) (hf0 : (fs[i]?).map (fun f => (f.type, f.offset)) = some (ft, off)) (ho : P.underlying ft = some (.int k)) (hc : P.cellsOf ft = 1) :
    ∃ n, cs[off]? = some (.int k n) ∧ (Lit.int k n).wf = true := by
  obtain ⟨f, hf, he⟩ := Option.map_eq_some_iff.1 hf0
  cases he
  obtain ⟨xs, m, _, _, _, hl, hx⟩ := DataW.trod_struct ht h
  have h1 := hx i f hf
  have hi : i < xs.length := by rw [hl]; exact (Array.getElem?_eq_some_iff.1 hf).1
  rw [List.getElem?_eq_getElem hi, hc] at h1
  obtain ⟨n, e, _, hw⟩ := DataW.trod_int ho h1
  exact ⟨n, take_drop_one e, hw⟩
theorem add_at (a : Addr) (hs : a.spot = none) (i : Nat) : a.add i = ⟨a.block, a.off + i, none⟩ := by
  unfold Addr.add
  split
  · rename_i h; subst h; cases a; simp_all
  · rfl
theorem field_bool {H : Type} {enc : TypeId × Value → H} {P : Program} {w : World} {base : Nat} {spare : Nat → Bool} {held : Bool} {fuel : Nat} {t : TypeId} {fs : Array Field} {cs : List Value} {x : DataW H × List MemPlace}
    (ht : P.underlying t = some (.struct fs)) (h : DataW.trod enc P w base spare held fuel t cs = some x) (i ft off : Nat) (hf0 : (fs[i]?).map (fun f => (f.type, f.offset)) = some (ft, off)) (ho : P.underlying ft = some .bool) (hc : P.cellsOf ft = 1) :
    ∃ b, cs[off]? = some (.bool b) := by
  obtain ⟨f, hf, he⟩ := Option.map_eq_some_iff.1 hf0
  cases he
  obtain ⟨xs, m, _, _, _, hl, hx⟩ := DataW.trod_struct ht h
  have h1 := hx i f hf
  have hi : i < xs.length := by rw [hl]; exact (Array.getElem?_eq_some_iff.1 hf).1
  rw [List.getElem?_eq_getElem hi, hc] at h1
  obtain ⟨n, e, _⟩ := DataW.trod_bool ho h1
  exact ⟨n, take_drop_one e⟩
theorem okWide_array {P : Program} {w : World} {r : Reach} {base : Nat} {t e : TypeId} {n : Nat} {v : Value} (ht : P.underlying t = some (.array n e)) (h : Value.okWide P w r base t v) : ∃ cs, v = .agg cs ∧ cs.size = P.cellsOf t := by
  unfold Value.okWide at h
  rw [ht] at h
  obtain ⟨cs, h1, h2, _⟩ := h
  exact ⟨cs, h1, h2⟩
/-- An integer among the elements of an array that reads. -/
theorem elem_int {H : Type} {enc : TypeId × Value → H} {P : Program} {w : World} {base : Nat} {spare : Nat → Bool} {held : Bool} {fuel n : Nat} {t e : TypeId} {cs : List Value} {x : DataW H × List MemPlace} {k : IntKind}
    (ht : P.underlying t = some (.array n e)) (h : DataW.trod enc P w base spare held fuel t cs = some x) (i : Nat) (hi : i < n) (ho : P.underlying e = some (.int k)) (hc : P.cellsOf e = 1) :
    ∃ z, cs[i]? = some (.int k z) ∧ (Lit.int k z).wf = true := by
  obtain ⟨xs, m, _, _, _, hl, hx⟩ := DataW.trod_array ht h
  have h1 := hx i hi
  rw [List.getElem?_eq_getElem (by omega), hc, Nat.mul_one] at h1
  obtain ⟨z, e, _, hw⟩ := DataW.trod_int ho h1
  exact ⟨z, take_drop_one e, hw⟩
/-- The cells of an element that was read as a row, at a plain address. -/
theorem spot_of_cells {w : World} {a : Addr} {n : Nat} {cs : List Value} (hn : 0 < n) (h : w.cells? 0 (a.add (0 * n)) n = some cs) : a.spot = none := by
  obtain ⟨_, hl, hc⟩ := World.cells?_some h
  have hj : 0 < cs.length := by omega
  have g := (hc 0 hn).trans (List.getElem?_eq_getElem hj)
  rw [Nat.zero_mul] at g
  exact cell_spot (by simpa [Addr.add] using g)
theorem row_of_cells {w : World} {a : Addr} {i n : Nat} {cs : List Value} (hsp : a.spot = none) (h : w.cells? 0 (a.add (i * n)) n = some cs) :
    ∃ b off, a = ⟨b, off, none⟩ ∧ RowAt w b (off + i * n) cs := by
  obtain ⟨_, hl, hc⟩ := World.cells?_some h
  refine ⟨a.block, a.off, by cases a; simp_all, fun j v hj => ?_⟩
  have hj' : j < n := by rw [← hl]; exact (List.getElem?_eq_some_iff.1 hj).1
  have g := (hc j hj').trans hj
  rw [add_at _ hsp, add_at _ rfl] at g
  exact g
theorem cells3 : Try.prog.cellsOf 3 = 1 := by kernel_rfl
theorem cells4 : Try.prog.cellsOf 4 = 1 := by kernel_rfl
end Go.Proofs.Ytmogoaceangblaa
