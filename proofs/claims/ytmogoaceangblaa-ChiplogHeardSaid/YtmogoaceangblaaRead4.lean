/- chiplog.read at all bytes. -/
import Derived.Test.YtmogoaceangblaaRead3
namespace Go.Proofs.Ytmogoaceangblaa
open Go.RowKit

set_option maxHeartbeats 4000000 in
set_option maxRecDepth 100000 in
theorem read_empty (w : World) (A : Option Addr) (cc : Nat) (hs : ∀ p o, A = some ⟨p, o, none⟩ → p < w.heap.size) :
    Calls Try.prog 16 #[.slice A 0 cc] w (ReadTo w A cc [] (.inl 12)) := by
  have hmf : ∀ (fn : Fn) (first cap : Array Value) (w : World), (Instr.makeFunc fn first cap).run Try.prog w = .ok (.func fn first cap) w := fun _ _ _ _ => rfl
  obtain ⟨w0, hw0⟩ : ∃ z, z = ((w.alloc (.cells #[.int .i64 0] 25)).alloc (.cells #[.slice A 0 cc, .int .i64 0, .slice none 0 0, .slice none 0 0] 49)) := ⟨_, rfl⟩
  have hsz0 : w0.heap.size = w.heap.size + 2 := by rw [hw0]; simp
  have HB0 : Hid (Below w.heap.size w w0) := hid (by rw [hw0]; exact Below.grow (Below.grow (Below.refl _ _) _) _)
  have hs1 : (w.alloc (.cells #[.int .i64 0] 25)).heap.size = w.heap.size + 1 := by simp
  have HE0 : Hid (w0.heap[w.heap.size]? = some (.cells #[.int .i64 0] 25 (0, 0))) := hid (by rw [hw0]; exact ((Below.grow (Below.refl _ _) _).block _ (by omega)).trans (heap_alloc_new w _))
  have HT0 : Hid (TapeV w0 (w.heap.size + 1) (.slice A 0 cc) 0 [] [] (.slice none 0 0) (.slice none 0 0)) := hid
    ⟨by rw [hw0, ← hs1]; exact heap_alloc_new _ _, ⟨by simp [flat], Or.inl ⟨rfl, rfl⟩⟩, ⟨by simp [icells], Or.inl ⟨rfl, rfl⟩⟩, by simp [Value.ownBlock], by simp, rfl, by simp⟩
  go_enter_defers Try.func16, Try.ntmps16
  go_wp2_with fail
  rw [← hw0]
  refine (tcommands _).mono ?_
  rintro e w1 ⟨rfl, hb1⟩
  have HB1 := hid hb1
  rw [show (Value.agg cmdCells.toArray) = .agg #[.int .i64 127, .func (.func 32) #[] #[], .int .i64 191, .func (.func 33) #[] #[], .int .i64 192, .func (.func 34) #[] #[], .int .i64 255, .func (.func 35) #[] #[]] from rfl]
  clear hb1 hs1
  go_wp2_with fail
  obtain ⟨w2, hw2⟩ : ∃ z, z = w1.alloc (Obj.cells #[.int .i64 127, .func (.func 32) #[] #[], .int .i64 191, .func (.func 33) #[] #[], .int .i64 192, .func (.func 34) #[] #[], .int .i64 255, .func (.func 35) #[] #[]] 67) := ⟨_, rfl⟩
  obtain ⟨t, ht⟩ : ∃ t, t = w.heap.size + 1 := ⟨_, rfl⟩
  obtain ⟨be, hbe⟩ : ∃ t, t = w.heap.size := ⟨_, rfl⟩
  obtain ⟨ba, hba⟩ : ∃ t, t = w1.heap.size := ⟨_, rfl⟩
  have HB2 : Hid (Below w0.heap.size w0 w2) := hid (by rw [hw2]; exact Below.grow HB1.out _)
  have HM : Hid (Mid w t be ba A cc [] 0 [] [] (.slice none 0 0) (.slice none 0 0) w2) := hid
    ⟨by rw [ht]; exact HT0.out.below HB2.out, Below.step HB0.out HB2.out, ⟨fun h => absurd h (by simp), fun p o _ => by have := hs p o ‹_›; omega, by simp, by simp⟩,
     by rw [hbe]; exact (HB2.out.block _ (by omega)).trans HE0.out, by rw [hw2, hba]; exact heap_alloc_new _ _,
     fun h => by
      have h1 := HB1.out.size
      rcases h with h | h | h
      · omega
      · simp [Value.ownBlock] at h
      · simp [Value.ownBlock] at h, by omega, by omega, by omega⟩
  rw [← hw2, ← ht, ← hbe, ← hba]
  clear hw2 ht hbe hba hw0 HB2 HB1 HB0 HT0 HE0 hsz0
  refine (tnext_end _ t A cc [] [] [] _ _ HM.out.tape).mono ?_
  rintro e w7 ⟨rfl, ho⟩
  obtain ⟨h1, h2, h3, h4⟩ := HM.out.fell ho 12
  refine (show bodyPostD Try.prog Try.f16 (ReadTo w A cc [] (.inl 12)) (Exit.panic (errno 12)) _ w7 from ?_)
  refine leaves_cons (f := 24) (args := #[.pointer (some ⟨be, 0, none⟩)]) (by simp) (by simp [go_sem]) ?_
  refine (catch_panic be 0 12 _ h1 h2).mono ?_
  rintro e u' w'' ⟨rfl, rfl, rfl⟩
  simp only [Leaves, settle, List.dropWhile_nil]
  refine ⟨.tuple #[.pointer (some ⟨t, 0, none⟩), .int .i64 12], by simp [results, Try.results16, go_sem, h4], ?_⟩
  exact ⟨_, rfl, h3⟩
set_option maxHeartbeats 4000000 in
set_option maxRecDepth 100000 in
theorem read_long (w : World) (A : Option Addr) (cc : Nat) (b : List Int) (hl : 400000 < b.length) :
    Calls Try.prog 16 #[.slice A b.length cc] w (ReadTo w A cc b (.inl 3)) := by
  go_enter_defers Try.func16, Try.ntmps16
  go_wp2_with fail
  have hs1 : (w.alloc (.cells #[.int .i64 3] 25)).heap.size = w.heap.size + 1 := by simp
  simp only [bodyPostD, Leaves]
  refine ⟨.tuple #[.pointer (some ⟨w.heap.size + 1, 0, none⟩), .int .i64 3], by simp [results, Try.results16, go_sem], ?_⟩
  exact ⟨_, rfl, Below.grow (Below.grow (Below.refl _ _) _) _⟩
theorem read_any (w : World) (A : Option Addr) (cc : Nat) (b : List Int) (hA : BytesAt w A b) (hs : ∀ p o, A = some ⟨p, o, none⟩ → p < w.heap.size) (hr : ∀ v ∈ b, 0 ≤ v ∧ v < 256) :
    Calls Try.prog 16 #[.slice A b.length cc] w (ReadTo w A cc b (readAll b)) := by
  by_cases hl : 400000 < b.length
  · have e : readAll b = .inl 3 := by unfold readAll; rw [if_pos hl]
    rw [e]
    exact read_long w A cc b hl
  · have e : readAll b = readL b (b.length + 1) 0 [] [] := by unfold readAll; rw [if_neg hl]
    rw [e]
    cases hv : b[0]? with
    | none =>
      have hb : b = [] := by cases b with
        | nil => rfl
        | cons x xs => simp at hv
      subst hb
      exact read_empty w A cc hs
    | some v =>
      rw [readL_goL hv]
      exact read_go w A cc b hA hs hr (by omega) v hv
end Go.Proofs.Ytmogoaceangblaa
