/- A literal map of the call's own, told by what stands at each key, and a range over it. -/
import Derived.Test.YtkpielgdfahanaaGreatScr
namespace Go.Proofs.YtkpielgdfahanaaGreat
open Go.RowKit Go.Maps

/-- Block b is a map of at most n entries with these elements. -/
def OMap (P : Program) (k : TypeId) (q : IntKind) (b n : Nat) (h : Int → Option Value) (w : World) : Prop :=
  ∃ D : DataW Value, w.ownsMap P k selfElem b n D ∧ IsMap D ∧ ∀ x zd, D.atKey (.int q x) zd = match h x with | some v => .held v | none => zd
/-- A range over it is under way: left x: the key x is still to come. -/
def ORan (P : Program) (k : TypeId) (q : IntKind) (b r n : Nat) (h : Int → Option Value) (left : Int → Bool) (cnt : Nat) (w : World) : Prop :=
  ∃ (D : DataW Value) (lf : Lit → Bool), w.ranges P k selfElem b r n D lf cnt ∧ (∀ x zd, D.atKey (.int q x) zd = match h x with | some v => .held v | none => zd) ∧ ∀ x, lf (.int q x) = left x

theorem OMap.made (P : Program) (k : TypeId) (q : IntKind) (w : World) : OMap P k q w.heap.size 0 (fun _ => none) (w.alloc (.map #[] 0)) :=
  ⟨_, World.ownsMap_made w P k selfElem, isMap_empty, fun _ _ => rfl⟩
theorem OMap.lt {P : Program} {k : TypeId} {q : IntKind} {b n : Nat} {h : Int → Option Value} {w : World} (o : OMap P k q b n h w) : b < w.heap.size := by obtain ⟨D, o, _⟩ := o; exact o.lt
theorem below_grown {w w' : World} (h : Below w.heap.size w w') : w.grownBy w' none := ⟨h.os, h.tape, h.output, h.size, fun i hi _ => h.block i hi⟩
theorem ORan.keep {P : Program} {k : TypeId} {q : IntKind} {b r n : Nat} {h : Int → Option Value} {left : Int → Bool} {cnt : Nat} {w w' : World} {row : Option Nat} (o : ORan P k q b r n h left cnt w) (hg : w.grownBy w' row) (hb : some b ≠ row) (hr : some r ≠ row) : ORan P k q b r n h left cnt w' := by
  obtain ⟨D, lf, h1, h2, h3⟩ := o
  exact ⟨D, lf, h1.kept hg hb hr, h2, h3⟩
theorem ORan.left_eq {P : Program} {k : TypeId} {q : IntKind} {b r n : Nat} {h : Int → Option Value} {left : Int → Bool} {cnt : Nat} {w : World} (o : ORan P k q b r n h left cnt w) : w.rangeLeft b r = cnt := by
  obtain ⟨D, lf, h1, _⟩ := o; exact h1.left_eq
theorem ORan.lt {P : Program} {k : TypeId} {q : IntKind} {b r n : Nat} {h : Int → Option Value} {left : Int → Bool} {cnt : Nat} {w : World} (o : ORan P k q b r n h left cnt w) : r < w.heap.size := by
  obtain ⟨D, lf, h1, _⟩ := o; exact h1.lt

section
variable {P : Program} {q : IntKind} (w : World) {ops : Array Oper} {rest : List Oper} {o : Oper} {a : Act} {Q : Exit → Act → World → Prop}
theorem wpList_insert_o (hg : o.guard = none) (m x v : Operand) (t : TypeId) (hop : o.op = Op.insert t m x v)
    (k e : TypeId) (K : Keyed P k) (ht : P.underlying t = some (.map k e)) (b n : Nat) (h : Int → Option Value)
    (hm : a.eval m = .map (some b)) (ho : Hid (OMap P k q b n h w)) (hn : n < maxLen) (kl : Int) (hkey : keyOf P k (a.eval x) = some (.int q kl)) (vv : Value) (hvv : a.eval v = vv)
    (hK : ∀ w', Hid (OMap P k q b (n + 1) (fun y => if y = kl then some vv else h y) w') → Hid (w.grownBy w' (some b)) → wpList P ops Q rest (a.put o.dst undef) w') :
    wpList P ops Q (o :: rest) a w := by
  refine wpList_plain hg fun K' hK' => ?_
  subst hvv
  obtain ⟨D, ho, hi, h2⟩ := ho
  obtain ⟨w', hrun, r1, r2⟩ := ho.update K ht hn (d := .held (a.eval v)) (ps := []) hkey rfl
  unfold Oper.wp
  simp [execOp, hop, hm, hrun, Result.andThen]
  refine hK' _ _ (hK w' ⟨_, r1, hi.put _ _, fun y zd => ?_⟩ r2)
  by_cases hy : y = kl
  · subst hy; rw [atKey_put_same hi (show WideAt.IsKeyLit (.int q y) from trivial)]; simp
  · rw [atKey_put_other (fun e => hy (by injection e)), h2]; simp [hy]

theorem wpList_range_o (hg : o.guard = none) (m : Operand) (t : TypeId) (hop : o.op = Op.range t m) (k e : TypeId) (K : Keyed P k) (ht : P.underlying t = some (.map k e)) (b n : Nat) (h : Int → Option Value)
    (hm : a.eval m = .map (some b)) (ho : Hid (OMap P k q b n h w))
    (hK : ∀ w' cnt, Hid (ORan P k q b w.heap.size n h (fun x => (h x).isSome) cnt w') → cnt ≤ n → Hid (w.grownBy w' none) → w'.heap.size = w.heap.size + 1 → wpList P ops Q rest (a.put o.dst (.pointer (some ⟨w.heap.size, 0, none⟩))) w') :
    wpList P ops Q (o :: rest) a w := by
  obtain ⟨D, ho, hi, h2⟩ := ho
  refine wpList_range_own w hg m t hop k e K ht selfElem b n D hm ho fun w' r1 r2 r3 => hK w' (Maps.size D) ⟨D, _, r1, h2, fun x => ?_⟩ ho.size_le r2 r3
  cases hx : h x with
  | none => show has D (.int q x) = (h x).isSome; rw [hx]; exact has_false_of_atKey fun z => by rw [h2, hx]
  | some v => show has D (.int q x) = (h x).isSome; rw [hx]; exact has_true_of_atKey (y := .held v) fun z => by rw [h2, hx]

theorem sameKey_int (q : IntKind) (y x : Int) : (Lit.int q y).sameKey (.int q x) = (y == x) := by
  by_cases h : y = x
  · subst h; rw [WideAt.sameKey_self (show WideAt.IsKeyLit (.int q y) from trivial)]; simp
  · rw [sameKey_ne (fun e => h (by injection e))]; simp [h]

theorem wpList_next_o (hg : o.guard = none) (it : Operand) (hop : o.op = Op.next it false) (k : TypeId) (K : Keyed P k) (hk : P.underlying k = some (.int q)) (b r n : Nat) (h : Int → Option Value) (left : Int → Bool) (cnt : Nat)
    (hit : a.eval it = .pointer (some ⟨r, 0, none⟩)) (ho : Hid (ORan P k q b r n h left cnt w))
    (hDone : (∀ x, left x = false) → wpList P ops Q rest (a.put o.dst (.tuple #[.bool false])) w)
    (hMore : ∀ (x : Int) (v : Value) (w' : World) (cnt' : Nat), Hid ((Lit.int q x).wf = true) → Hid (h x = some v) → Hid (left x = true) → Hid (ORan P k q b r n h (fun y => left y && !(y == x)) cnt' w') → Hid (cnt' < cnt) →
      Hid (w.grownBy w' (some r)) → (Instr.entry (.pointer (some ⟨r, 0, none⟩))).run P w' = .ok (.tuple #[.int q x, v]) w' → wpList P ops Q rest (a.put o.dst (.tuple #[.bool true, .int q x, v])) w') :
    wpList P ops Q (o :: rest) a w := by
  obtain ⟨D, lf, h1, h2, h3⟩ := ho
  refine wpList_next_ranges w hg it hop k K selfElem (Value.int q) id (fun key kl hkey => by obtain ⟨x, rfl, _⟩ := Maps.keyOf_int_inv hk hkey; exact ⟨x, rfl⟩) (fun v y _ => ⟨v, rfl⟩) b r n D lf cnt hit h1 (fun _ hl => hDone fun x => by rw [← h3, hl]) ?_
  intro x v kl y w' cnt' hkey hlk hv hat hrg hlt hgr hsz hen
  obtain ⟨x', ex, rfl, hwx⟩ := Maps.keyOf_int_inv hk hkey
  cases ex
  simp [selfElem] at hv
  subst hv
  have hl : left x = true := by rw [← h3]; exact hlk
  have hx : h x = some v := by
    cases hx : h x with
    | none =>
      have h4 := hat .nil
      rw [h2, hx] at h4
      cases h4
    | some v' =>
      have h4 := hat .nil
      rw [h2, hx] at h4
      simp at h4
      rw [h4]
  exact hMore x v w' cnt' hwx hx hl ⟨D, _, hrg, h2, fun y => by rw [h3, sameKey_int]⟩ hlt hgr hen

theorem wpList_lookup_tab {p : Nat → Prop} {q : IntKind} (w : World) {ops : Array Oper} {rest : List Oper} {o : Oper} {a : Act} {Q : Exit → Act → World → Prop} {b n : Nat} {G : Int → Eff} (hg : o.guard = none) (m x : Operand) (t : TypeId) (hop : o.op = Op.lookup t m x false)
    (k : TypeId) (K : Keyed Tryz.prog k) (ht : Tryz.prog.underlying t = some (.map k 77)) (hm : a.eval m = .map (some b)) (h : Hid (Tab p k q b n G w)) (kl : Int) (hkey : keyOf Tryz.prog k (a.eval x) = some (.int q kl)) (hne : G kl ≠ .nil)
    (hK : ∀ fn cap, Hid (Lies p (G kl) (.func fn #[] cap) w) → wpList Tryz.prog ops Q rest (a.put o.dst (.func fn #[] cap)) w) : wpList Tryz.prog ops Q (o :: rest) a w := by
  obtain ⟨g, h1, h2⟩ := h
  refine wpList_lookup_fn w hg m x t hop k 77 K ht _ (zero77 w) b n g hm h1 _ kl rfl hkey ?_
  obtain ⟨fn, cap, e⟩ := (h2 kl).fn hne
  have h3 := h2 kl
  rw [e] at h3 ⊢
  exact hK fn cap h3
end
end Go.Proofs.YtkpielgdfahanaaGreat
