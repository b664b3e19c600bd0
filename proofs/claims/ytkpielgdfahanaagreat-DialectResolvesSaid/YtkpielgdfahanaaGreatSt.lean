/- What a cell asks for, in numbers alone: the memory, the parameter with its halves, the operations; and what each effect does to them. -/
import Derived.Test.YtkpielgdfahanaaGreatEff
namespace Go.Proofs.YtkpielgdfahanaaGreat

/-- A cell that is being resolved: the memory (24 slots, effect, parameter), the parameter with its halves, the operations. -/
structure St where
  M : List Int
  p : Int
  h : Int
  l : Int
  O : List (Int × Int × Int)
namespace St
def slot (s : St) (k : Nat) : Int := s.M.getD k 0
def put (s : St) (p : Int) : St := { s with p := p, h := p / 16, l := p % 16 }
def ask (s : St) (n x y : Int) : St := { s with O := s.O ++ [(n, x, y)] }
def keep (s : St) (k : Nat) (x : Int) : St := { s with M := s.M.set k x }
def setL (s : St) (x : Int) : St := { s with l := x }
def wholeP (s : St) (k : Nat) : St := if s.p = 0 then s.put (s.slot k) else s
def whole (s : St) (k : Nat) : St := (s.wholeP k).keep k (s.wholeP k).p
def halfH (s : St) (k : Nat) : Int := if s.h = 0 then s.slot k / 16 else s.h
def halfL (s : St) (k : Nat) : Int := if s.l = 0 then s.slot k % 16 else s.l
def halves (s : St) (k : Nat) : St := (s.put (16 * s.halfH k + s.halfL k)).keep k (16 * s.halfH k + s.halfL k)
def lowL (s : St) (k : Nat) : Int := if s.l = 0 then s.slot k else s.l
def low (s : St) (k : Nat) : St := (s.setL (s.lowL k)).keep k (s.lowL k)

/-- The numbers lie where they should; the low half is at most B. -/
structure Ok (B : Int) (s : St) : Prop where
  len : s.M.length = 26
  slots : ∀ k, k < 24 → 0 ≤ s.slot k ∧ s.slot k ≤ 255
  p : 0 ≤ s.p ∧ s.p ≤ 255
  h : 0 ≤ s.h ∧ s.h ≤ 15
  l : 0 ≤ s.l ∧ s.l ≤ B
  O : s.O.length ≤ 40

theorem slot_set {M : List Int} {k j : Nat} {x : Int} (hk : k < M.length) : (M.set k x).getD j 0 = if k = j then x else M.getD j 0 := by
  rw [List.getD_eq_getElem?_getD, List.getElem?_set]
  by_cases h : k = j
  · subst h; simp [hk]
  · simp [h, List.getD_eq_getElem?_getD]
theorem Ok.more {B C : Int} {s : St} (h : Ok B s) (hB : B ≤ C) : Ok C s := ⟨h.len, h.slots, h.p, h.h, ⟨h.l.1, Int.le_trans h.l.2 hB⟩, h.O⟩
theorem Ok.put {B : Int} {s : St} (h : Ok B s) {p : Int} (h0 : 0 ≤ p) (h1 : p ≤ 255) : Ok 15 (s.put p) :=
  ⟨h.len, h.slots, ⟨h0, h1⟩, by show 0 ≤ p / 16 ∧ p / 16 ≤ 15; omega, by show 0 ≤ p % 16 ∧ p % 16 ≤ 15; omega, h.O⟩
theorem Ok.keep {B : Int} {s : St} (h : Ok B s) (k : Nat) {x : Int} (hk : k < 24) (h0 : 0 ≤ x) (h1 : x ≤ 255) : Ok B (s.keep k x) := by
  refine ⟨by simp [St.keep, h.len], fun j hj => ?_, h.p, h.h, h.l, h.O⟩
  show 0 ≤ (s.M.set k x).getD j 0 ∧ (s.M.set k x).getD j 0 ≤ 255
  rw [slot_set (by rw [h.len]; omega)]
  split
  · exact ⟨h0, h1⟩
  · exact h.slots j hj
theorem Ok.wholeP {s : St} (h : Ok 15 s) {k : Nat} (hk : k < 24) : Ok 15 (s.wholeP k) := by
  unfold St.wholeP
  split
  · exact h.put (h.slots k hk).1 (h.slots k hk).2
  · exact h
theorem Ok.whole {s : St} (h : Ok 15 s) {k : Nat} (hk : k < 24) : Ok 15 (s.whole k) :=
  (h.wholeP hk).keep k hk (h.wholeP hk).p.1 (h.wholeP hk).p.2
theorem Ok.half {s : St} (h : Ok 15 s) {k : Nat} (hk : k < 24) : 0 ≤ s.halfH k ∧ s.halfH k ≤ 15 ∧ 0 ≤ s.halfL k ∧ s.halfL k ≤ 15 := by
  have := h.slots k hk
  have := h.h
  have := h.l
  unfold St.halfH St.halfL
  split <;> split <;> omega
theorem Ok.halves {s : St} (h : Ok 15 s) {k : Nat} (hk : k < 24) : Ok 15 (s.halves k) := by
  have := h.half hk
  exact (h.put (by omega) (by omega)).keep k hk (by omega) (by omega)
theorem Ok.lowL {s : St} (h : Ok 15 s) {k : Nat} (hk : k < 24) : 0 ≤ s.lowL k ∧ s.lowL k ≤ 255 := by
  have := h.slots k hk
  have := h.l
  unfold St.lowL
  split <;> omega
theorem Ok.low {s : St} (h : Ok 15 s) {k : Nat} (hk : k < 24) : Ok 255 (s.low k) := by
  have := h.lowL hk
  exact Ok.keep (s := s.setL (s.lowL k)) ⟨h.len, h.slots, h.p, h.h, this, h.O⟩ k hk this.1 this.2

/-- What a run of an effect leaves: a memory, and at most n operations more. -/
structure After (n : Nat) (s t : St) : Prop where
  len : t.M.length = 26
  slots : ∀ k, k < 24 → 0 ≤ t.slot k ∧ t.slot k ≤ 255
  eff : t.M.getD 24 0 = s.M.getD 24 0 ∧ t.M.getD 25 0 = s.M.getD 25 0
  O : t.O.length ≤ s.O.length + n
theorem Ok.after {B : Int} {s : St} (h : Ok B s) (n : Nat) : After n s s := ⟨h.len, h.slots, ⟨rfl, rfl⟩, by omega⟩
theorem After.ask {n : Nat} {s t : St} (h : After n s t) (k x y : Int) : After (n + 1) s (t.ask k x y) := ⟨h.len, h.slots, h.eff, by have := h.O; simp [St.ask]; omega⟩
theorem After.more {n m : Nat} {s t : St} (h : After n s t) (hm : n ≤ m) : After m s t := ⟨h.len, h.slots, h.eff, by have := h.O; omega⟩
theorem After.trans {n m : Nat} {s t u : St} (h : After n s t) (k : After m t u) : After (n + m) s u :=
  ⟨k.len, k.slots, ⟨k.eff.1.trans h.eff.1, k.eff.2.trans h.eff.2⟩, by have := h.O; have := k.O; omega⟩
theorem Ok.left_keep {B C : Int} {s t : St} (h : Ok B s) (ht : Ok C t) (k : Nat) (x : Int) (hk : k < 24) (e : t.M = s.M.set k x) (eO : t.O = s.O) : After 0 s t :=
  ⟨ht.len, ht.slots, by rw [e, slot_set (by rw [h.len]; omega), slot_set (by rw [h.len]; omega), if_neg (by omega), if_neg (by omega)]; exact ⟨rfl, rfl⟩, by rw [eO]; omega⟩
theorem whole_M (s : St) (k : Nat) : (s.whole k).M = s.M.set k (s.wholeP k).p ∧ (s.whole k).O = s.O := by
  unfold St.whole St.wholeP
  split <;> exact ⟨rfl, rfl⟩
theorem Ok.whole_left {s : St} (h : Ok 15 s) {k : Nat} (hk : k < 24) : After 0 s (s.whole k) := h.left_keep (h.whole hk) k _ hk (whole_M s k).1 (whole_M s k).2
theorem Ok.halves_left {s : St} (h : Ok 15 s) {k : Nat} (hk : k < 24) : After 0 s (s.halves k) := h.left_keep (h.halves hk) k _ hk rfl rfl
theorem Ok.low_left {s : St} (h : Ok 15 s) {k : Nat} (hk : k < 24) : After 0 s (s.low k) := h.left_keep (h.low hk) k _ hk rfl rfl
theorem Ok.put_left {B : Int} {s : St} (h : Ok B s) (p : Int) : After 0 s (s.put p) := ⟨h.len, h.slots, ⟨rfl, rfl⟩, Nat.le_refl _⟩
end St
open St

def slideE (s : St) : St := if s.l = 15 ∧ s.h ≠ 0 then s.ask 13 s.h 0 else if s.h = 15 ∧ s.l ≠ 0 then s.ask 14 s.l 0 else s.ask 12 s.h s.l
def bendE (plain fine extra : Int) (s : St) : St := if 240 ≤ s.p then s.ask fine s.l 0 else if 224 ≤ s.p then s.ask extra s.l 0 else s.ask plain s.p 0
def panV (v : Int) : Int := v + v / 128
/-- What a function of effects without captured variables does. -/
def fnE (f : Nat) (s : St) : St :=
  if f = 89 then (s.ask 8 (s.slot 1) 0).ask 12 s.h s.l else
  if f = 90 then (s.ask 9 (s.slot 2 / 16) (s.slot 2 % 16)).ask 12 s.h s.l else
  if f = 92 then s.ask 16 (panV s.p) 0 else
  if f = 94 then s.ask 18 (256 * s.p) 0 else
  if f = 95 then s.ask 15 (min s.p 64) 0 else
  if f = 96 then s.ask 33 (10 * s.h + s.l) 0 else
  if f = 99 then (if s.p < 32 then s.ask 36 s.p 0 else s.ask 37 s.p 0) else
  if f = 101 then s.ask 24 (min s.l 1) 0 else
  if f = 102 then s.ask 27 (8 * (s.l - 8)) 0 else
  if f = 104 then s.ask 16 (panV (17 * s.l)) 0 else
  if f = 105 then slideE s else
  if f = 106 then bendE 3 5 7 s else
  if f = 107 then bendE 2 4 6 s else
  if f = 108 then s.ask 20 (s.h + 1) (s.l + 1) else
  if f = 109 then slideE (s.ask 9 (s.slot 3 / 16) (s.slot 3 % 16)) else
  if f = 110 then slideE (s.ask 8 (s.slot 2) 0) else
  if f = 111 then s.ask 18 (256 * s.p) 0 else
  if f = 112 then s.ask 19 s.l s.h else
  if f = 113 then (if 32 ≤ s.p then s.ask 37 s.p 0 else s) else
  if f = 117 then s.ask 19 s.l s.h else
  if f = 121 then s.ask 17 s.l s.h else
  if f = 123 then (if s.p < 16 then s.ask 38 (- s.l) 0 else if s.p < 32 then s.ask 38 s.l 0 else s.ask 37 s.p 0) else
  if f = 124 then s.ask 16 (panV s.p) 0 else
  if f = 125 then (if s.p < 128 then s.ask 42 s.p 0 else if s.p < 144 then s.ask 43 (8 * (s.p - 128)) 0 else s) else
  if f = 127 then s.ask 47 (s.p % 32) 0 else
  if f = 128 then s.ask 48 (s.p % 16) 0 else
  if f = 135 then (if 8 ≤ s.l then s.ask 27 (8 * (s.l - 16)) 0 else s.ask 27 (8 * s.l) 0) else
  if f = 140 then (if s.l ≤ 2 then s.ask 41 s.l 0 else if s.l ≤ 6 then s.ask 40 (s.l - 3) 0 else s) else
  if f = 141 then (if s.l ≤ 1 then s.ask 44 s.l 0 else if s.l = 15 then s.ask 45 1 0 else s) else s
def IsFn (f : Nat) : Prop := f ∈ [89, 90, 92, 94, 95, 96, 99, 101, 102, 104, 105, 106, 107, 108, 109, 110, 111, 112, 113, 117, 121, 123, 124, 125, 127, 128, 135, 140, 141]
/-- What an effect does. -/
def runE : Eff → St → St
  | .nil, s => s
  | .fn f, s => fnE f s
  | .param n, s => s.ask n s.p 0
  | .both n, s => s.ask n s.h s.l
  | .lowHalf n, s => s.ask n s.l 0
  | .wave n, s => s.ask n (s.l % 4) 0
  | .doubled n m, s => s.ask n (2 * min s.p m) 0
  | .extra k n, s => (s.low k.toNat).ask n (s.low k.toNat).l 0
  | .unless0 e, s => if s.p = 0 then s else runE e s
  | .wholly k e, s => runE e (s.whole k.toNat)
  | .halved k e, s => runE e (s.halves k.toNat)
  | .low k e, s => runE e (s.low k.toNat)
  | .upTo m e, s => if s.p ≤ m then runE e s else s
  | .byHigh g, s => runE (g s.h) s
/-- An effect as the dialects have them. -/
def Wf : Eff → Prop
  | .nil => True
  | .fn f => IsFn f
  | .param _ => True
  | .both _ => True
  | .lowHalf _ => True
  | .wave _ => True
  | .doubled _ m => 0 ≤ m ∧ m ≤ 1000
  | .extra k _ => 0 ≤ k ∧ k < 24
  | .unless0 e => e ≠ .nil ∧ Wf e
  | .wholly k e => 0 ≤ k ∧ k < 24 ∧ e ≠ .nil ∧ Wf e
  | .halved k e => 0 ≤ k ∧ k < 24 ∧ e ≠ .nil ∧ Wf e
  | .low k e => 0 ≤ k ∧ k < 24 ∧ ∃ n, e = .lowHalf n
  | .upTo _ e => e ≠ .nil ∧ Wf e
  | .byHigh g => ∀ h, Wf (g h)
theorem slideE_left {s : St} (h : Ok 15 s) : After 1 s (slideE s) := by
  unfold slideE
  split
  · exact (h.after 0).ask _ _ _
  · split <;> exact (h.after 0).ask _ _ _
theorem bendE_left {s : St} (h : Ok 15 s) (a b c : Int) : After 1 s (bendE a b c s) := by
  unfold bendE
  split
  · exact (h.after 0).ask _ _ _
  · split <;> exact (h.after 0).ask _ _ _
theorem slideE_after {s : St} (h : Ok 15 s) (n x y : Int) : After 2 s (slideE (s.ask n x y)) := by
  unfold slideE
  split
  · exact ((h.after 0).ask _ _ _).ask _ _ _
  · split <;> exact ((h.after 0).ask _ _ _).ask _ _ _
theorem ite_after {c : Prop} [Decidable c] {n : Nat} {s t u : St} (h1 : After n s t) (h2 : After n s u) : After n s (if c then t else u) := by
  split
  · exact h1
  · exact h2
theorem fnE_left (f : Nat) {s : St} (h : Ok 15 s) : After 2 s (fnE f s) := by
  have a0 := h.after 2
  have a1 : ∀ n x y, After 2 s (s.ask n x y) := fun n x y => ((h.after 0).ask n x y).more (by omega)
  have a2 : ∀ n x y m z t, After 2 s ((s.ask n x y).ask m z t) := fun n x y m z t => ((h.after 0).ask n x y).ask m z t
  have a3 := (slideE_left h).more (show 1 ≤ 2 by omega)
  have a4 := fun a b c => (bendE_left h a b c).more (show 1 ≤ 2 by omega)
  have a5 := fun n x y => slideE_after h n x y
  unfold fnE
  repeat' (first | exact a0 | exact a1 _ _ _ | exact a2 _ _ _ _ _ _ | exact a3 | exact a4 _ _ _ | exact a5 _ _ _ | refine ite_after ?_ ?_)
theorem runE_left : ∀ (e : Eff) {s : St}, Wf e → Ok 15 s → After 2 s (runE e s)
  | .nil, _, _, h => h.after 2
  | .fn f, _, _, h => fnE_left f h
  | .param _, _, _, h => ((h.after 0).ask _ _ _).more (by omega)
  | .both _, _, _, h => ((h.after 0).ask _ _ _).more (by omega)
  | .lowHalf _, _, _, h => ((h.after 0).ask _ _ _).more (by omega)
  | .wave _, _, _, h => ((h.after 0).ask _ _ _).more (by omega)
  | .doubled _ _, _, _, h => ((h.after 0).ask _ _ _).more (by omega)
  | .extra k _, _, w, h => ((h.low_left (k := k.toNat) (by obtain ⟨_, _⟩ := w; omega)).ask _ _ _).more (by omega)
  | .unless0 e, s, w, h => by
    unfold runE
    split
    · exact h.after 2
    · exact runE_left e w.2 h
  | .wholly k e, s, w, h => by
    obtain ⟨w1, w2, _, w3⟩ := w
    have hk : k.toNat < 24 := by omega
    have := (h.whole_left hk).trans (runE_left e w3 (h.whole hk))
    rw [Nat.zero_add] at this
    exact this
  | .halved k e, s, w, h => by
    obtain ⟨w1, w2, _, w3⟩ := w
    have hk : k.toNat < 24 := by omega
    have := (h.halves_left hk).trans (runE_left e w3 (h.halves hk))
    rw [Nat.zero_add] at this
    exact this
  | .low k e, s, w, h => by
    obtain ⟨w1, w2, n, w3⟩ := w
    have hk : k.toNat < 24 := by omega
    subst w3
    exact ((h.low_left hk).ask _ _ _).more (by omega)
  | .upTo m e, s, w, h => by
    unfold runE
    split
    · exact runE_left e w.2 h
    · exact h.after 2
  | .byHigh g, s, w, h => runE_left (g s.h) (w s.h) h
end Go.Proofs.YtkpielgdfahanaaGreat
