/- chiplog.read's deferred closure: a panic of its own kind of error is taken as the result. -/
import Derived.Test.YtmogoaceangblaaCmds6
import Derived.Defers
import Derived.Recover
namespace Go.Proofs.Ytmogoaceangblaa
open Go.RowKit

@[go_sem] theorem as_errno (v : Value) (w : World) : (Instr.typeAssert (.iface 25 v) 20 25 true).run Try.prog w = .ok (.tuple #[v, .bool true]) w := by kernel_rfl
@[go_sem] theorem as_none (w : World) : (Instr.typeAssert .nilIface 20 25 true).run Try.prog w = .ok (.tuple #[.int .i64 0, .bool false]) w := by kernel_rfl
theorem catch_panic (be : Nat) (x : Int) (er : Int) (w : World) (hc : w.cell? ⟨be, 0, none⟩ = some (.int .i64 x)) (hz : w.frozen? ⟨be, 0, none⟩ = false) :
    CallsD Try.prog 24 #[.pointer (some ⟨be, 0, none⟩)] (.panicking (errno er)) w fun e u' w' =>
      e = .returned (.tuple #[]) ∧ u' = .panicking [{ v := .iface 25 (.int .i64 er), recovered := true }] ∧ w' = w.setCell ⟨be, 0, none⟩ (.int .i64 er) := by
  refine callsD_of_wpS Try.func24 rfl fun c₀ cs hu => ?_
  apply wpS_seq
  apply wpS_region
  simp [wpOpsS, go_sem, recoverD, hu, Try.ntmps24, Exit.thenS, errno]
  apply wpS_seq
  apply wpS_region
  simp [wpOpsS, go_sem, Exit.thenS]
  refine wpS_cond (t := true) (by simp [Act.eval, Array.replicate]) ?_
  simp only [if_true]
  apply wpS_region
  simp [wpOpsS, go_sem, hc, hz, bodyPostS, results, Try.results24, Array.replicate]

theorem catch_idle (be : Nat) (w : World) :
    CallsD Try.prog 24 #[.pointer (some ⟨be, 0, none⟩)] .returning w fun e u' w' => e = .returned (.tuple #[]) ∧ u' = .returning ∧ w' = w := by
  refine callsD_of_wpS Try.func24 rfl fun c₀ cs hu => ?_
  apply wpS_seq
  apply wpS_region
  simp [wpOpsS, go_sem, recoverD, hu, Try.ntmps24, Exit.thenS]
  apply wpS_seq
  apply wpS_region
  simp [wpOpsS, go_sem, Exit.thenS]
  refine wpS_cond (t := false) (by simp [Act.eval, Array.replicate]) ?_
  simp only [Bool.false_eq_true, if_false]
  refine wpS_of_wp (wp_skip ?_)
  cases c₀
  simp_all [bodyPostS, results, Try.results24]
end Go.Proofs.Ytmogoaceangblaa
