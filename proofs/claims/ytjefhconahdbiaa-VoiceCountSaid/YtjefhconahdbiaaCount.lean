/- VoiceCount returns true for all lists of voices that can be read: voice.Count and the reference's Count give the same two numbers. -/
import Derived.Test.YtjefhconahdbiaaOpen
namespace Go.Proofs.Ytjefhconahdbiaa
open Go.RowKit
/-- A slice of such structs reads as a list of what is asked of them. -/
def VoicesAt (w : World) (A : Option Addr) (xs : List (Bool × Bool)) : Prop :=
  ∀ i, i < xs.length → ∃ (b off : Nat) (x0 : Bool) (x1 : Bool) (x2 : Int) (x3 : Int) (x4 : Int) (x5 : Int) (x6 : Int) (x7 : Bool) (x8 : Bool) (x9 : Int) (x10 : Int) (x11 : Int) (x12 : Int) (x13 : Int) (x14 : Int) (x15 : Int) (x16 : Int) (x17 : Bool) (x18 : Int) (x19 : Int) (x20 : Int), A = some ⟨b, off, none⟩ ∧ xs[i]? = some (x0, x1) ∧ RowAt w b (off + i * 21) [.bool x0, .bool x1, .int .i64 x2, .int .i64 x3, .int .i64 x4, .int .i64 x5, .int .i64 x6, .bool x7, .bool x8, .int .i64 x9, .int .i64 x10, .int .i64 x11, .int .i64 x12, .int .i64 x13, .int .i64 x14, .int .i64 x15, .int .i64 x16, .bool x17, .int .i64 x18, .int .i64 x19, .int .i64 x20]
theorem VoicesAt.below {w w' : World} {A : Option Addr} {xs : List (Bool × Bool)} (h : VoicesAt w A xs) (hb : Below w.heap.size w w') : VoicesAt w' A xs := by
  intro i hi
  obtain ⟨b, off, x0, x1, x2, x3, x4, x5, x6, x7, x8, x9, x10, x11, x12, x13, x14, x15, x16, x17, x18, x19, x20, e, e2, hr⟩ := h i hi
  exact ⟨b, off, x0, x1, x2, x3, x4, x5, x6, x7, x8, x9, x10, x11, x12, x13, x14, x15, x16, x17, x18, x19, x20, e, e2, hr.below hb⟩
theorem cells70 : Try.prog.cellsOf 70 = 21 := by kernel_rfl
theorem row70 {cs : List Value} {n : Nat} {H : Type} {enc : TypeId × Value → H} {w : World} {base : Nat} {spare : Nat → Bool} {held : Bool} {x : DataW H × List MemPlace} (hl : cs.length = 21) (h2 : DataW.trod enc Try.prog w base spare held n 70 cs = some x) :
    ∃ (x0 : Bool) (x1 : Bool) (x2 : Int) (x3 : Int) (x4 : Int) (x5 : Int) (x6 : Int) (x7 : Bool) (x8 : Bool) (x9 : Int) (x10 : Int) (x11 : Int) (x12 : Int) (x13 : Int) (x14 : Int) (x15 : Int) (x16 : Int) (x17 : Bool) (x18 : Int) (x19 : Int) (x20 : Int), cs = [.bool x0, .bool x1, .int .i64 x2, .int .i64 x3, .int .i64 x4, .int .i64 x5, .int .i64 x6, .bool x7, .bool x8, .int .i64 x9, .int .i64 x10, .int .i64 x11, .int .i64 x12, .int .i64 x13, .int .i64 x14, .int .i64 x15, .int .i64 x16, .bool x17, .int .i64 x18, .int .i64 x19, .int .i64 x20] := by
  obtain ⟨n0, e0⟩ := field_bool Try.underlying70 h2 0 4 0 rfl Try.underlying4 cells4
  obtain ⟨n1, e1⟩ := field_bool Try.underlying70 h2 1 4 1 rfl Try.underlying4 cells4
  obtain ⟨n2, e2, _⟩ := field_int Try.underlying70 h2 2 3 2 rfl Try.underlying3 cells3
  obtain ⟨n3, e3, _⟩ := field_int Try.underlying70 h2 3 3 3 rfl Try.underlying3 cells3
  obtain ⟨n4, e4, _⟩ := field_int Try.underlying70 h2 4 3 4 rfl Try.underlying3 cells3
  obtain ⟨n5, e5, _⟩ := field_int Try.underlying70 h2 5 3 5 rfl Try.underlying3 cells3
  obtain ⟨n6, e6, _⟩ := field_int Try.underlying70 h2 6 3 6 rfl Try.underlying3 cells3
  obtain ⟨n7, e7⟩ := field_bool Try.underlying70 h2 7 4 7 rfl Try.underlying4 cells4
  obtain ⟨n8, e8⟩ := field_bool Try.underlying70 h2 8 4 8 rfl Try.underlying4 cells4
  obtain ⟨n9, e9, _⟩ := field_int Try.underlying70 h2 9 3 9 rfl Try.underlying3 cells3
  obtain ⟨n10, e10, _⟩ := field_int Try.underlying70 h2 10 3 10 rfl Try.underlying3 cells3
  obtain ⟨n11, e11, _⟩ := field_int Try.underlying70 h2 11 3 11 rfl Try.underlying3 cells3
  obtain ⟨n12, e12, _⟩ := field_int Try.underlying70 h2 12 3 12 rfl Try.underlying3 cells3
  obtain ⟨n13, e13, _⟩ := field_int Try.underlying70 h2 13 3 13 rfl Try.underlying3 cells3
  obtain ⟨n14, e14, _⟩ := field_int Try.underlying70 h2 14 3 14 rfl Try.underlying3 cells3
  obtain ⟨n15, e15, _⟩ := field_int Try.underlying70 h2 15 3 15 rfl Try.underlying3 cells3
  obtain ⟨n16, e16, _⟩ := field_int Try.underlying70 h2 16 3 16 rfl Try.underlying3 cells3
  obtain ⟨n17, e17⟩ := field_bool Try.underlying70 h2 17 4 17 rfl Try.underlying4 cells4
  obtain ⟨n18, e18, _⟩ := field_int Try.underlying70 h2 18 3 18 rfl Try.underlying3 cells3
  obtain ⟨n19, e19, _⟩ := field_int Try.underlying70 h2 19 3 19 rfl Try.underlying3 cells3
  obtain ⟨n20, e20, _⟩ := field_int Try.underlying70 h2 20 3 20 rfl Try.underlying3 cells3
  refine ⟨n0, n1, n2, n3, n4, n5, n6, n7, n8, n9, n10, n11, n12, n13, n14, n15, n16, n17, n18, n19, n20, ?_⟩
  match cs, hl with
  | [y0, y1, y2, y3, y4, y5, y6, y7, y8, y9, y10, y11, y12, y13, y14, y15, y16, y17, y18, y19, y20], _ =>
    simp only [List.getElem?_cons_zero, List.getElem?_cons_succ, Option.some.injEq] at e0 e1 e2 e3 e4 e5 e6 e7 e8 e9 e10 e11 e12 e13 e14 e15 e16 e17 e18 e19 e20
    subst e0 e1 e2 e3 e4 e5 e6 e7 e8 e9 e10 e11 e12 e13 e14 e15 e16 e17 e18 e19 e20
    rfl
open Go.ChangeShapes Go.WideShapes Go.ChangeAt in
set_option maxRecDepth 100000 in
set_option maxHeartbeats 1000000 in
theorem open_Voices {H : Type} {enc : TypeId × Value → H} (W : World) (base : Nat) (v : Value) (d : DataW H) (p : List MemPlace)
    (ho : Value.okWide Try.prog W .any base 22 v) (h : DataW.Trod enc Try.prog W 0 (fun _ => true) true 22 v d p) :
    ∃ A xs c, v = .slice A (List.length xs) c ∧ VoicesAt W A xs := by
  obtain ⟨A, len, cap, rfl⟩ := okWide_slice Try.underlying22 ho
  obtain ⟨fuel, hf⟩ := h
  rcases Go.Deep.open_slice Try.underlying22 hf with ⟨hcs, _⟩ | ⟨a, l, c, m, n, D, Pl, hcs, _, hl, hm, hmm, _, hx⟩
  · simp [Value.cells] at hcs
    obtain ⟨rfl, rfl, rfl⟩ := hcs
    exact ⟨none, [], 0, rfl, fun i hi => by simp at hi⟩
  · simp [Value.cells] at hcs
    obtain ⟨rfl, rfl, rfl⟩ := hcs
    have key : ∀ i, i < len → ∃ x : Bool × Bool × Int × Int × Int × Int × Int × Bool × Bool × Int × Int × Int × Int × Int × Int × Int × Int × Bool × Int × Int × Int, ∃ b off, a = ⟨b, off, none⟩ ∧ RowAt W b (off + i * 21) [.bool x.1, .bool x.2.1, .int .i64 x.2.2.1, .int .i64 x.2.2.2.1, .int .i64 x.2.2.2.2.1, .int .i64 x.2.2.2.2.2.1, .int .i64 x.2.2.2.2.2.2.1, .bool x.2.2.2.2.2.2.2.1, .bool x.2.2.2.2.2.2.2.2.1, .int .i64 x.2.2.2.2.2.2.2.2.2.1, .int .i64 x.2.2.2.2.2.2.2.2.2.2.1, .int .i64 x.2.2.2.2.2.2.2.2.2.2.2.1, .int .i64 x.2.2.2.2.2.2.2.2.2.2.2.2.1, .int .i64 x.2.2.2.2.2.2.2.2.2.2.2.2.2.1, .int .i64 x.2.2.2.2.2.2.2.2.2.2.2.2.2.2.1, .int .i64 x.2.2.2.2.2.2.2.2.2.2.2.2.2.2.2.1, .int .i64 x.2.2.2.2.2.2.2.2.2.2.2.2.2.2.2.2.1, .bool x.2.2.2.2.2.2.2.2.2.2.2.2.2.2.2.2.2.1, .int .i64 x.2.2.2.2.2.2.2.2.2.2.2.2.2.2.2.2.2.2.1, .int .i64 x.2.2.2.2.2.2.2.2.2.2.2.2.2.2.2.2.2.2.2.1, .int .i64 x.2.2.2.2.2.2.2.2.2.2.2.2.2.2.2.2.2.2.2.2] := by
      intro i hi
      obtain ⟨cz, hz, _⟩ := hx 0 (by rw [hmm]; simp; omega)
      obtain ⟨cs', h1, h2⟩ := hx i (by rw [hmm]; simp; omega)
      rw [cells70] at h1 hz
      obtain ⟨b, off, rfl, hr⟩ := row_of_cells (spot_of_cells (by decide) hz) h1
      obtain ⟨_, hlen, _⟩ := World.cells?_some h1
      obtain ⟨x0, x1, x2, x3, x4, x5, x6, x7, x8, x9, x10, x11, x12, x13, x14, x15, x16, x17, x18, x19, x20, rfl⟩ := row70 hlen h2
      exact ⟨(x0, x1, x2, x3, x4, x5, x6, x7, x8, x9, x10, x11, x12, x13, x14, x15, x16, x17, x18, x19, x20), b, off, rfl, hr⟩
    obtain ⟨f, hf'⟩ := Go.Deep.choose_lt key
    refine ⟨some a, (List.range len).map (fun i => (fun x : Bool × Bool × Int × Int × Int × Int × Int × Bool × Bool × Int × Int × Int × Int × Int × Int × Int × Int × Bool × Int × Int × Int => (x.1, x.2.1)) (f i)), cap, by simp, fun i hi => ?_⟩
    simp at hi
    obtain ⟨b, off, rfl, hr⟩ := hf' i hi
    exact ⟨b, off, (f i).1, (f i).2.1, (f i).2.2.1, (f i).2.2.2.1, (f i).2.2.2.2.1, (f i).2.2.2.2.2.1, (f i).2.2.2.2.2.2.1, (f i).2.2.2.2.2.2.2.1, (f i).2.2.2.2.2.2.2.2.1, (f i).2.2.2.2.2.2.2.2.2.1, (f i).2.2.2.2.2.2.2.2.2.2.1, (f i).2.2.2.2.2.2.2.2.2.2.2.1, (f i).2.2.2.2.2.2.2.2.2.2.2.2.1, (f i).2.2.2.2.2.2.2.2.2.2.2.2.2.1, (f i).2.2.2.2.2.2.2.2.2.2.2.2.2.2.1, (f i).2.2.2.2.2.2.2.2.2.2.2.2.2.2.2.1, (f i).2.2.2.2.2.2.2.2.2.2.2.2.2.2.2.2.1, (f i).2.2.2.2.2.2.2.2.2.2.2.2.2.2.2.2.2.1, (f i).2.2.2.2.2.2.2.2.2.2.2.2.2.2.2.2.2.2.1, (f i).2.2.2.2.2.2.2.2.2.2.2.2.2.2.2.2.2.2.2.1, (f i).2.2.2.2.2.2.2.2.2.2.2.2.2.2.2.2.2.2.2.2, rfl, by simp [hi], hr⟩

def counts (xs : List (Bool × Bool)) : Nat × Nat := ((xs.filter fun x => x.1 && x.2).length, (xs.filter fun x => x.1 && !x.2).length)
theorem counts_succ (xs : List (Bool × Bool)) (k : Nat) (x : Bool × Bool) (h : xs[k]? = some x) :
    counts (xs.take (k + 1)) = ((counts (xs.take k)).1 + (if x.1 && x.2 then 1 else 0), (counts (xs.take k)).2 + (if x.1 && !x.2 then 1 else 0)) := by
  unfold counts
  rw [List.take_add_one, h, Option.toList_some, List.filter_append, List.filter_append, List.length_append, List.length_append]
  obtain ⟨a, b⟩ := x
  cases a <;> cases b <;> simp
theorem counts_le (xs : List (Bool × Bool)) (k : Nat) : (counts (xs.take k)).1 ≤ k ∧ (counts (xs.take k)).2 ≤ k := by
  have hl : (xs.take k).length ≤ k := by simp; omega
  constructor
  · exact Nat.le_trans (List.length_filter_le _ _) hl
  · exact Nat.le_trans (List.length_filter_le _ _) hl
def Counted (xs : List (Bool × Bool)) (w : World) (e : Ending) (w' : World) : Prop :=
  e = .returned (.tuple #[.int .i64 (counts xs).1, .int .i64 (counts xs).2]) ∧ Below w.heap.size w w'
theorem size70 : (Try.prog.info? 70).map (·.size) = some 21 := by kernel_rfl

set_option maxHeartbeats 4000000 in
set_option maxRecDepth 100000 in
theorem count_any (A : Option Addr) (xs : List (Bool × Bool)) (c : Nat) (w : World) (hx : VoicesAt w A xs) (hn : xs.length ≤ 1000) :
    Calls Try.prog 15 #[.slice A xs.length c] w (Counted xs w) := by
  have HX := hid hx; clear hx
  go_enter Try.func15, Try.ntmps15
  go_wp2
  go_loopw [2, 3, 5, 8] (fun m p _ i wr => ∃ k : Nat, k ≤ xs.length ∧ i = .int .i64 k ∧ m = .int .i64 (counts (xs.take k)).1 ∧ p = .int .i64 (counts (xs.take k)).2 ∧ Hid (Below w.heap.size w wr)) (fun _ _ _ i _ => xs.length - (intOf i).toNat)
  case atStart => exact ⟨0, Nat.zero_le _, rfl, rfl, rfl, Below.refl _ _⟩
  case round =>
    obtain ⟨k, hk, rfl, rfl, rfl, HB⟩ := hrel
    have hcl := counts_le xs k
    by_cases hlt : k < xs.length
    · obtain ⟨b, off, x0, x1, x2, x3, x4, x5, x6, x7, x8, x9, x10, x11, x12, x13, x14, x15, x16, x17, x18, x19, x20, rfl, hxk, hr⟩ := (HX.out.below HB.out) k hlt
      have HR := hid hr; clear hr
      have HS := hid (counts_succ xs k _ hxk); clear hxk
      generalize counts (xs.take k) = cc at *
      obtain ⟨cm, cp⟩ := cc
      simp only at hcl HS ⊢
      have HB1 := hid (Below.grow HB.out (.cells #[.bool x0, .bool x1, .int .i64 x2, .int .i64 x3, .int .i64 x4, .int .i64 x5, .int .i64 x6, .bool x7, .bool x8, .int .i64 x9, .int .i64 x10, .int .i64 x11, .int .i64 x12, .int .i64 x13, .int .i64 x14, .int .i64 x15, .int .i64 x16, .bool x17, .int .i64 x18, .int .i64 x19, .int .i64 x20] 70)); clear HB
      go_wp2_with (first | (refine wpList_load_at rfl 70 _ rfl b (off + k * 21) rfl #[.bool x0, .bool x1, .int .i64 x2, .int .i64 x3, .int .i64 x4, .int .i64 x5, .int .i64 x6, .bool x7, .bool x8, .int .i64 x9, .int .i64 x10, .int .i64 x11, .int .i64 x12, .int .i64 x13, .int .i64 x14, .int .i64 x15, .int .i64 x16, .bool x17, .int .i64 x18, .int .i64 x19, .int .i64 x20] _ HR.out Try.underlying70 rfl size70 ?_) | (refine wpList_store_new rfl 70 _ _ rfl _ #[.bool x0, .bool x1, .int .i64 x2, .int .i64 x3, .int .i64 x4, .int .i64 x5, .int .i64 x6, .bool x7, .bool x8, .int .i64 x9, .int .i64 x10, .int .i64 x11, .int .i64 x12, .int .i64 x13, .int .i64 x14, .int .i64 x15, .int .i64 x16, .bool x17, .int .i64 x18, .int .i64 x19, .int .i64 x20] rfl rfl size70 rfl rfl ?_))
      · have e0 : x0 = true := by assumption
        have e1 : x1 = true := by assumption
        subst e0; subst e1
        go_roundw
        case rel => exact ⟨k + 1, by omega, by go_num, by rw [HS.out]; go_num, by rw [HS.out]; rfl, HB1.out⟩
        case measure => simp [intOf]; omega
      · have e0 : x0 = true := by assumption
        have e1 : x1 = false := by assumption
        subst e0; subst e1
        go_roundw
        case rel => exact ⟨k + 1, by omega, by go_num, by rw [HS.out]; rfl, by rw [HS.out]; go_num, HB1.out⟩
        case measure => simp [intOf]; omega
      · have e0 : x0 = false := by simpa using (by assumption : ¬ x0 = true)
        subst e0
        go_roundw
        case rel => exact ⟨k + 1, by omega, by go_num, by rw [HS.out]; rfl, by rw [HS.out]; rfl, HB1.out⟩
        case measure => simp [intOf]; omega
    · obtain rfl : k = xs.length := by omega
      rw [List.take_length] at *
      go_wp2
      go_ret2
      exact ⟨rfl, HB.out⟩

set_option maxHeartbeats 4000000 in
set_option maxRecDepth 100000 in
theorem refcount_any (A : Option Addr) (xs : List (Bool × Bool)) (c : Nat) (w : World) (hx : VoicesAt w A xs) (hn : xs.length ≤ 1000) :
    Calls Try.prog 16 #[.slice A xs.length c] w (Counted xs w) := by
  have HX := hid hx; clear hx
  go_enter Try.func16, Try.ntmps16
  go_wp2
  go_loopw [2, 3, 5, 8] (fun m p _ i wr => ∃ k : Nat, k ≤ xs.length ∧ i = .int .i64 k ∧ m = .int .i64 (counts (xs.take k)).1 ∧ p = .int .i64 (counts (xs.take k)).2 ∧ Hid (Below w.heap.size w wr)) (fun _ _ _ i _ => xs.length - (intOf i).toNat)
  case atStart => exact ⟨0, Nat.zero_le _, rfl, rfl, rfl, Below.refl _ _⟩
  case round =>
    obtain ⟨k, hk, rfl, rfl, rfl, HB⟩ := hrel
    have hcl := counts_le xs k
    by_cases hlt : k < xs.length
    · obtain ⟨b, off, x0, x1, x2, x3, x4, x5, x6, x7, x8, x9, x10, x11, x12, x13, x14, x15, x16, x17, x18, x19, x20, rfl, hxk, hr⟩ := (HX.out.below HB.out) k hlt
      have HR := hid hr; clear hr
      have HS := hid (counts_succ xs k _ hxk); clear hxk
      generalize counts (xs.take k) = cc at *
      obtain ⟨cm, cp⟩ := cc
      simp only at hcl HS ⊢
      have HB1 := hid (Below.grow HB.out (.cells #[.bool x0, .bool x1, .int .i64 x2, .int .i64 x3, .int .i64 x4, .int .i64 x5, .int .i64 x6, .bool x7, .bool x8, .int .i64 x9, .int .i64 x10, .int .i64 x11, .int .i64 x12, .int .i64 x13, .int .i64 x14, .int .i64 x15, .int .i64 x16, .bool x17, .int .i64 x18, .int .i64 x19, .int .i64 x20] 70)); clear HB
      go_wp2_with (first | (refine wpList_load_at rfl 70 _ rfl b (off + k * 21) rfl #[.bool x0, .bool x1, .int .i64 x2, .int .i64 x3, .int .i64 x4, .int .i64 x5, .int .i64 x6, .bool x7, .bool x8, .int .i64 x9, .int .i64 x10, .int .i64 x11, .int .i64 x12, .int .i64 x13, .int .i64 x14, .int .i64 x15, .int .i64 x16, .bool x17, .int .i64 x18, .int .i64 x19, .int .i64 x20] _ HR.out Try.underlying70 rfl size70 ?_) | (refine wpList_store_new rfl 70 _ _ rfl _ #[.bool x0, .bool x1, .int .i64 x2, .int .i64 x3, .int .i64 x4, .int .i64 x5, .int .i64 x6, .bool x7, .bool x8, .int .i64 x9, .int .i64 x10, .int .i64 x11, .int .i64 x12, .int .i64 x13, .int .i64 x14, .int .i64 x15, .int .i64 x16, .bool x17, .int .i64 x18, .int .i64 x19, .int .i64 x20] rfl rfl size70 rfl rfl ?_))
      · have e0 : x0 = true := by assumption
        have e1 : x1 = true := by assumption
        subst e0; subst e1
        go_roundw
        case rel => exact ⟨k + 1, by omega, by go_num, by rw [HS.out]; go_num, by rw [HS.out]; rfl, HB1.out⟩
        case measure => simp [intOf]; omega
      · have e0 : x0 = true := by assumption
        have e1 : x1 = false := by assumption
        subst e0; subst e1
        go_roundw
        case rel => exact ⟨k + 1, by omega, by go_num, by rw [HS.out]; rfl, by rw [HS.out]; go_num, HB1.out⟩
        case measure => simp [intOf]; omega
      · have e0 : x0 = false := by simpa using (by assumption : ¬ x0 = true)
        subst e0
        go_roundw
        case rel => exact ⟨k + 1, by omega, by go_num, by rw [HS.out]; rfl, by rw [HS.out]; rfl, HB1.out⟩
        case measure => simp [intOf]; omega
    · obtain rfl : k = xs.length := by omega
      rw [List.take_length] at *
      go_wp2
      go_ret2
      exact ⟨rfl, HB.out⟩

set_option maxHeartbeats 1000000 in
theorem count_law (A : Option Addr) (xs : List (Bool × Bool)) (c : Nat) (w : World) (hx : VoicesAt w A xs) :
    Calls Try.prog 3 #[.slice A xs.length c] w fun e w' => e = .returned (.bool true) ∧ Below w.heap.size w w' := by
  have HX := hid hx; clear hx
  by_cases hn : 1000 < xs.length
  · have hd : decide (1000 < (xs.length : Int)) = true := decide_eq_true (by omega)
    go_enter Try.func3, Try.ntmps3
    go_wp2
    go_ret
    exact ⟨rfl, Below.refl _ _⟩
  · have hd : decide (1000 < (xs.length : Int)) = false := decide_eq_false (by omega)
    go_enter Try.func3, Try.ntmps3
    go_wp2_with fail
    refine (count_any A xs c _ HX.out (by omega)).mono ?_
    rintro e w1 ⟨rfl, hb1⟩
    have HB1 := hid hb1; clear hb1
    go_wp2_with fail
    refine (refcount_any A xs c _ (HX.out.below HB1.out) (by omega)).mono ?_
    rintro e w2 ⟨rfl, hb2⟩
    have HB2 := hid (Below.step HB1.out hb2); clear hb2
    go_wp2
    go_ret
    exact ⟨ret_bool (by simp), HB2.out⟩
set_option maxRecDepth 100000 in
theorem VoiceCount_opened {H : Type} {enc : TypeId × Value → H} (W : World) (base : Nat) (v0 : Value) {d0 : DataW H} {p0 : List MemPlace}
    (o0 : Value.okWide Try.prog W .any base 22 v0) (h0 : DataW.Trod enc Try.prog W 0 (fun _ => true) true 22 v0 d0 p0) :
    Calls Try.prog 3 #[v0] W fun e w' => e = .returned (.bool true) ∧ Below W.heap.size W w' := by
  obtain ⟨A, xs, c, rfl, hx⟩ := open_Voices W base v0 d0 p0 o0 h0
  exact count_law A xs c W hx
end Go.Proofs.Ytjefhconahdbiaa
