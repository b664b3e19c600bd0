/- The laws on register logs: the argument opened, and ChiplogWrites joined from its two contracts. -/
import Derived.Test.YtmogoaceangblaaDiffer
import Derived.ProofKit
import Derived.OpenShut
import Derived.Carry
import Derived.Deep.Matrix
namespace Go.Proofs.Ytmogoaceangblaa
open Go.RowKit

theorem cells61 : Try.prog.cellsOf 30 = 1 := by kernel_rfl
theorem add_plain (a : Addr) (hs : a.spot = none) : a = ⟨a.block, a.off, none⟩ := by cases a; simp_all
open Go.ChangeShapes Go.WideShapes Go.ChangeAt in
set_option maxRecDepth 100000 in
theorem open_log {H : Type} {enc : TypeId × Value → H} (W : World) (base : Nat) (v : Value) (d : DataW H) (p : List MemPlace)
    (ho : Value.okWide Try.prog W .any base 22 v) (h : DataW.Trod enc Try.prog W 0 (fun _ => true) true 22 v d p) :
    ∃ A xs c, v = .slice A (List.length xs) c ∧ LogAt W A xs := by
  obtain ⟨A, len, cap, rfl⟩ := okWide_slice Try.underlying22 ho
  obtain ⟨fuel, hf⟩ := h
  rcases Go.Deep.open_int_rows Try.underlying22 Try.underlying30 Try.underlying3 cells61 cells3 hf with ⟨hcs, _⟩ | ⟨a, l, c, B, L, C, Z, hcs, _, hl, hm, _, hx⟩
  · simp [Value.cells] at hcs
    obtain ⟨rfl, rfl, rfl⟩ := hcs
    exact ⟨none, [], 0, rfl, fun i hi => by simp at hi⟩
  · simp [Value.cells] at hcs
    obtain ⟨rfl, rfl, rfl⟩ := hcs
    refine ⟨some a, (List.range len).map (fun r => (Z r).take (L r)), cap, by simp, fun i hi => ?_⟩
    simp at hi
    obtain ⟨h1, h2, h3, h4, _, h6, h7⟩ := hx i (by omega)
    have hsp := cell_spot (hx 0 (by omega)).1
    have hsp' : a.spot = none := by simpa [Addr.add] using hsp
    have hlen : ((Z i).take (L i)).length = L i := by simp; omega
    refine ⟨a.block, a.off, B i, C i, (Z i).take (L i), congrArg some (add_plain a hsp'), by simp [hi], ?_, ?_⟩
    · rw [hlen]
      rw [add_at _ hsp'] at h1
      exact h1
    · intro h0
      rw [hlen] at h0
      cases hB : B i with
      | none => have := h6 hB; omega
      | some a' =>
        obtain ⟨_, hc⟩ := h7 a' hB
        have hs0 : a'.spot = none := by simpa [Addr.add] using cell_spot (hc 0 (by omega))
        refine ⟨a'.block, a'.off, congrArg some (add_plain a' hs0), fun j v hj => ?_⟩
        have hj' : j < L i := by have := (List.getElem?_eq_some_iff.1 hj).1; rw [icells_len, hlen] at this; exact this
        have hcj := hc j (by omega)
        rw [add_at _ hs0] at hcj
        rw [hcj]
        simp only [icells, List.getElem?_map, List.getElem?_take, if_pos hj', Option.map_eq_some_iff] at hj
        obtain ⟨y, hy, rfl⟩ := hj
        rw [List.getD, hy]
        rfl

end Go.Proofs.Ytmogoaceangblaa
