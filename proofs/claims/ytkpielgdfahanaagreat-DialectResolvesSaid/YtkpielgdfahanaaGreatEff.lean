/- What a function value of the dialects' tables stands for, and that it lies in the heap: its captured variables, and what those hold. -/
import Derived.Test.YtkpielgdfahanaaGreatOpen
import Derived.Test.YtkpielgdfahanaaGreatQuirks
import Derived.Maps.OwnSet
import Derived.Maps.OwnOps
import Derived.Maps.RangeWalk
/- A map of the call's own, told by what stands at each key (any elements: function values too): made, read, written, struck, ranged over. -/
namespace Go.Proofs.YtkpielgdfahanaaGreat
open Go.Maps Go.RowKit

/-- An element stands for itself. -/
def selfElem (v : Value) : Option (DataW Value × List MemPlace) := some (.held v, [])

/-- Block b is a map of at most n entries that holds g x at each key x (the zero value z where it has none). -/
def FnMap (P : Program) (k : TypeId) (q : IntKind) (z : Value) (b n : Nat) (g : Int → Value) (w : World) : Prop :=
  ∃ D : DataW Value, w.ownsMap P k selfElem b n D ∧ IsMap D ∧ ∀ x, D.atKey (.int q x) (.held z) = .held (g x)

section
variable {P : Program} {k : TypeId} {q : IntKind} {z : Value} {b n : Nat} {g : Int → Value} {w : World}

theorem FnMap.made (P : Program) (k : TypeId) (q : IntKind) (z : Value) (w : World) : FnMap P k q z w.heap.size 0 (fun _ => z) (w.alloc (.map #[] 0)) :=
  ⟨_, World.ownsMap_made w P k selfElem, isMap_empty, fun _ => rfl⟩
theorem FnMap.lt (h : FnMap P k q z b n g w) : b < w.heap.size := by obtain ⟨D, h, _⟩ := h; exact h.lt
theorem FnMap.mono (h : FnMap P k q z b n g w) {m : Nat} (hm : n ≤ m) : FnMap P k q z b m g w := by obtain ⟨D, h, h'⟩ := h; exact ⟨D, h.mono hm, h'⟩
theorem FnMap.same (h : FnMap P k q z b n g w) {g' : Int → Value} (e : ∀ x, g x = g' x) : FnMap P k q z b n g' w := by
  obtain ⟨D, h, h', h2⟩ := h; exact ⟨D, h, h', fun x => by rw [h2, e]⟩
theorem FnMap.block (h : FnMap P k q z b n g w) : ∃ es c, w.heap[b]? = some (.map es c) := by obtain ⟨D, ⟨es, c, hb, _⟩, _⟩ := h; exact ⟨es, c, hb⟩
theorem FnMap.kept {w' : World} (h : FnMap P k q z b n g w) (he : w'.heap[b]? = w.heap[b]?) : FnMap P k q z b n g w' := by
  obtain ⟨D, ⟨es, c, hb, F, hs, hD⟩, h'⟩ := h
  exact ⟨D, ⟨es, c, he.trans hb, F, hs, hD⟩, h'⟩
theorem FnMap.below {w' : World} {B : Nat} (h : FnMap P k q z b n g w) (hb : Below B w w') (hB : b < B) : FnMap P k q z b n g w' := h.kept (hb.block b hB)

theorem FnMap.look {t e : TypeId} (h : FnMap P k q z b n g w) (K : Keyed P k) (ht : P.underlying t = some (.map k e)) (hz : (zeroValue e).run P w = .ok z w) {key : Value} {kl : Int} (hkey : keyOf P k key = some (.int q kl)) :
    (Instr.lookup t (.map (some b)) key false).run P w = .ok (g kl) w := by
  obtain ⟨D, h, _, h2⟩ := h
  obtain ⟨v, ps, hrun, hv⟩ := h.lookup K ht hz (zd := .held z) (zp := []) rfl hkey
  rw [h2 kl] at hv
  simp [selfElem] at hv
  rw [hrun, hv.1]
end

section
variable {P : Program} {q : IntKind} (w : World) {ops : Array Oper} {rest : List Oper} {o : Oper} {a : Act} {Q : Exit → Act → World → Prop}

theorem wpList_lookup_fn (hg : o.guard = none) (m x : Operand) (t : TypeId) (hop : o.op = Op.lookup t m x false)
    (k e : TypeId) (K : Keyed P k) (ht : P.underlying t = some (.map k e)) (z : Value) (hz : (zeroValue e).run P w = .ok z w) (b n : Nat) (g : Int → Value)
    (hm : a.eval m = .map (some b)) (h : FnMap P k q z b n g w) (key : Value) (kl : Int) (hx : a.eval x = key) (hkey : keyOf P k key = some (.int q kl))
    (hK : wpList P ops Q rest (a.put o.dst (g kl)) w) : wpList P ops Q (o :: rest) a w := by
  refine wpList_plain hg fun K' hK' => ?_
  have hrun := h.look K ht hz hkey
  unfold Oper.wp
  simp [execOp, hop, hm, hx, hrun, Result.andThen]
  exact hK' _ _ hK

/-- A store into the map: nothing else has turned. -/
theorem wpList_update_fn (hg : o.guard = none) (m x v : Operand) (t : TypeId) (hop : o.op = Op.mapUpdate t m x v)
    (k e : TypeId) (K : Keyed P k) (ht : P.underlying t = some (.map k e)) (z : Value) (b n : Nat) (g : Int → Value)
    (hm : a.eval m = .map (some b)) (h : FnMap P k q z b n g w) (hn : n < maxLen) (key val : Value) (kl : Int) (hx : a.eval x = key) (hv : a.eval v = val) (hkey : keyOf P k key = some (.int q kl))
    (hK : ∀ w', FnMap P k q z b (n + 1) (fun y => if y = kl then val else g y) w' → w.grownBy w' (some b) → wpList P ops Q rest (a.put o.dst undef) w') :
    wpList P ops Q (o :: rest) a w := by
  obtain ⟨D, h, hi, h2⟩ := h
  refine wpList_mapUpdate_own w hg m x v t hop k e K ht selfElem b n D hm h hn key val (.int q kl) hx hv hkey (.held val) [] rfl fun w' ho hg' => hK w' ⟨_, ho, hi.put _ _, fun y => ?_⟩ hg'
  by_cases hy : y = kl
  · subst hy; rw [atKey_put_same hi (show WideAt.IsKeyLit (.int q y) from trivial)]; simp
  · rw [atKey_put_other (fun e => hy (by injection e)), h2]; simp [hy]

/-- An entry of a map's literal. -/
theorem wpList_insert_fn (hg : o.guard = none) (m x v : Operand) (t : TypeId) (hop : o.op = Op.insert t m x v)
    (k e : TypeId) (K : Keyed P k) (ht : P.underlying t = some (.map k e)) (z : Value) (b n : Nat) (g : Int → Value)
    (hm : a.eval m = .map (some b)) (h : FnMap P k q z b n g w) (hn : n < maxLen) (key val : Value) (kl : Int) (hx : a.eval x = key) (hv : a.eval v = val) (hkey : keyOf P k key = some (.int q kl))
    (hK : ∀ w', FnMap P k q z b (n + 1) (fun y => if y = kl then val else g y) w' → w.grownBy w' (some b) → wpList P ops Q rest (a.put o.dst undef) w') :
    wpList P ops Q (o :: rest) a w := by
  refine wpList_plain hg fun K' hK' => ?_
  obtain ⟨D, h, hi, h2⟩ := h
  obtain ⟨w', hrun, r1, r2⟩ := h.update K ht hn (d := .held val) (ps := []) hkey rfl
  unfold Oper.wp
  simp [execOp, hop, hm, hx, hv, hrun, Result.andThen]
  refine hK' _ _ (hK w' ⟨_, r1, hi.put _ _, fun y => ?_⟩ r2)
  by_cases hy : y = kl
  · subst hy; rw [atKey_put_same hi (show WideAt.IsKeyLit (.int q y) from trivial)]; simp
  · rw [atKey_put_other (fun e => hy (by injection e)), h2]; simp [hy]

/-- A key is struck. -/
theorem wpList_delete_fn (hg : o.guard = none) (m x : Operand) (t k : TypeId) (hop : o.op = Op.call { callee := Callee.builtin Builtin.delete, args := #[m, x], argTypes := #[t, k] })
    (e : TypeId) (K : Keyed P k) (ht : P.underlying t = some (.map k e)) (z : Value) (b n : Nat) (g : Int → Value)
    (hm : a.eval m = .map (some b)) (h : FnMap P k q z b n g w) (key : Value) (kl : Int) (hx : a.eval x = key) (hkey : keyOf P k key = some (.int q kl))
    (hK : ∀ w', FnMap P k q z b n (fun y => if y = kl then z else g y) w' → w.grownBy w' (some b) → wpList P ops Q rest (a.put o.dst (.tuple #[])) w') :
    wpList P ops Q (o :: rest) a w := by
  obtain ⟨D, h, hi, h2⟩ := h
  refine wpList_delete_own w hg m x t k hop e K ht selfElem b n D hm h key (.int q kl) hx hkey fun w' ho hg' => hK w' ⟨_, ho, hi.del _, fun y => ?_⟩ hg'.grown
  by_cases hy : y = kl
  · subst hy; rw [atKey_del_same]; simp
  · rw [atKey_del_other (fun e => hy (by injection e)), h2]; simp [hy]
end


/-! An assignment of several map elements at once: an entry is laid first, its value later. -/
/-- The map holds an entry of this key under this stamp. -/
def HasEntry (b : Nat) (key : Value) (st : Nat) (w : World) : Prop :=
  ∃ es c, ∃ (j : Nat) (e0 : MapEntry), w.heap[b]? = some (.map es c) ∧ es[j]? = some e0 ∧ e0.key = key ∧ e0.born = st

theorem born_at : ∀ (l : List MapEntry) (j : Nat) (e0 : MapEntry), (l.map (·.born)).Nodup → l[j]? = some e0 → l.findIdx? (fun e => ((e.born : Nat) : Int) == ((e0.born : Nat) : Int)) = some j
  | [], _, _, _, h => by simp at h
  | x :: r, 0, e0, _, h => by simp at h; subst h; simp [List.findIdx?_cons]
  | x :: r, j + 1, e0, hn, h => by
    simp only [List.map_cons, List.nodup_cons] at hn
    simp only [List.getElem?_cons_succ] at h
    have hne : ¬ x.born = e0.born := fun e1 => hn.1 (List.mem_map.2 ⟨e0, List.mem_of_getElem? h, e1.symm⟩)
    have hb : (((x.born : Nat) : Int) == ((e0.born : Nat) : Int)) = false := beq_eq_false_iff_ne.2 (fun e1 => hne (Int.ofNat_inj.1 e1))
    rw [List.findIdx?_cons, born_at r j e0 hn.2 h, hb]
    rfl

section
variable {P : Program} {k : TypeId} {q : IntKind} {z : Value} {b n : Nat} {g : Int → Value} {w : World}
open Go.ChangeShapes Go.WideShapes Go.MapKept Go.ChangeMaps

theorem FnMap.entry {t e : TypeId} (h : FnMap P k q z b n g w) (K : Keyed P k) (ht : P.underlying t = some (.map k e)) (hz : ∀ u : World, (zeroValue e).run P u = .ok z u) (hn : n < maxLen) {key : Value} {kl : Int} (hkey : keyOf P k key = some (.int q kl)) :
    ∃ (v0 : Value) (st : Nat) (w1 : World), (Instr.mapEntry t (.map (some b)) key).run P w = .ok (.tuple #[v0, goInt st]) w1 ∧ FnMap P k q z b (n + 1) g w1 ∧ HasEntry b key st w1 ∧ w.grownBy w1 (some b) := by
  have hlook := h.look K ht (hz w) hkey
  have hall := h
  obtain ⟨D, hown, hi, h2⟩ := h
  obtain ⟨w', hrun, hown', hg⟩ := hown.update K ht hn (d := .held (g kl)) (ps := []) (val := g kl) hkey rfl
  obtain ⟨es, clock, hb, F, hs, hD⟩ := hown
  rcases K.find w hkey es.toList F.keys with ⟨h1, h3⟩ | ⟨j, e0, h1, h3, h4⟩
  · have hgz : g kl = z := by
      have h5 : (Instr.lookup t (.map (some b)) key false).run P w = .ok z w := by
        simp [Instr.lookup, run_underlying ht, MapKept.run_getObj_map hb, K.check w _ hkey, h1, hz, Result.andThen]
      rw [hlook] at h5
      injection h5
    have hrun2 : (Instr.mapUpdate t (.map (some b)) key (g kl)).run P w = .ok () (setBlock w b (.map (es.push ⟨key, g kl, clock⟩) (clock + 1))) := by
      simp [Instr.mapUpdate, run_underlying ht, MapKept.run_getObj_map hb, K.check w false hkey, h1, MapKept.run_setObj_map _ hb, Result.andThen, setBlock]
    rw [hrun2] at hrun
    injection hrun with _ hw
    subst hw
    refine ⟨z, clock, _, ?_, ⟨_, hown', hi.put _ _, fun y => ?_⟩, ⟨_, _, es.size, ⟨key, g kl, clock⟩, heap_setBlock_same hb _, by simp, rfl, rfl⟩, hg⟩
    · simp [Instr.mapEntry, run_underlying ht, MapKept.run_getObj_map hb, K.check w false hkey, h1, hz, MapKept.run_setObj_map _ hb, Result.andThen, setBlock, hgz]
    · by_cases hy : y = kl
      · subst hy; rw [atKey_put_same hi (show WideAt.IsKeyLit (.int q y) from trivial)]
      · rw [atKey_put_other (fun e => hy (by injection e)), h2]
  · have hj : es[j]? = some e0 := by simpa using h3
    have hjl : j < es.size := by
      rcases Nat.lt_or_ge j es.size with h | h
      · exact h
      · rw [Array.getElem?_eq_none h] at hj; cases hj
    have hsame : es.modify j (fun e => { e with key := key }) = es := by
      apply Array.ext
      · simp
      · intro i h5 h6
        rw [Array.getElem_modify]
        split
        · rename_i hij
          subst hij
          have : es[j] = e0 := by rw [Array.getElem?_eq_getElem hjl] at hj; injection hj
          rw [this, ← h4]
        · rfl
    have hwb : setBlock w b (.map es clock) = w := by
      unfold setBlock
      have : w.heap.set! b (.map es clock) = w.heap := by
        apply Array.ext
        · simp
        · intro i h5 h6
          simp only [Array.set!_eq_setIfInBounds]
          rw [Array.getElem_setIfInBounds (by simpa using h6)]
          split
          · rename_i hij
            subst hij
            rw [Array.getElem?_eq_getElem h6] at hb
            injection hb with hb
            exact hb.symm
          · rfl
      simp_all
    refine ⟨e0.val, e0.born, w, ?_, hall.mono (Nat.le_succ _), ⟨_, _, j, e0, hb, hj, h4, rfl⟩, ⟨rfl, rfl, rfl, Nat.le_refl _, fun _ _ _ => rfl⟩⟩
    have hset : ∀ o, (setObj b o).run P w = .ok () (setBlock w b o) := fun o => by
      rw [MapKept.run_setObj_map _ hb]; rfl
    simp [Instr.mapEntry, run_underlying ht, MapKept.run_getObj_map hb, K.check w false hkey, h1, hj, h4, K.stays w hkey, hsame, hset, hwb, Result.andThen]

/-- The value that is laid later: as a store into the map. -/
theorem HasEntry.store {t e : TypeId} (K : Keyed P k) (ht : P.underlying t = some (.map k e)) (h : FnMap P k q z b n g w) {key val : Value} {kl : Int} {st : Nat} (hkey : keyOf P k key = some (.int q kl)) (he : HasEntry b key st w) :
    (Instr.entryStore t (.map (some b)) (goInt st) val).run P w = (Instr.mapUpdate t (.map (some b)) key val).run P w := by
  obtain ⟨D, ⟨es, clock, hb, F, hs, hD⟩, _⟩ := h
  obtain ⟨es', c', j, e0, hb', hj, hk, hst⟩ := he
  rw [hb] at hb'
  injection hb' with hb'
  injection hb' with h1 h2
  subst h1; subst h2; subst hst
  have hjl : es.toList[j]? = some e0 := by simpa using hj
  have hfi : es.findIdx? (fun e => ((e.born : Nat) : Int) == ((e0.born : Nat) : Int)) = some j := by
    have := born_at es.toList j e0 F.stamped.2.1 hjl
    rw [← this]; cases es; simp
  rcases K.find w hkey es.toList F.keys with ⟨h1, h3⟩ | ⟨j', e1, h1, h3, h4⟩
  · exact absurd hk (h3 e0 (List.mem_of_getElem? hjl))
  · have hap : es.toList.Pairwise (fun x y => x.key ≠ y.key) := ((stamped_iff es clock).1 F.stamped).2.2
    rw [List.pairwise_iff_getElem] at hap
    obtain ⟨l1, g1⟩ := List.getElem?_eq_some_iff.1 hjl
    obtain ⟨l2, g2⟩ := List.getElem?_eq_some_iff.1 h3
    have hjj : j' = j := by
      rcases Nat.lt_trichotomy j' j with h | h | h
      · exact absurd (by rw [g2, g1, h4, hk]) (hap j' j l2 l1 h)
      · exact h
      · exact absurd (by rw [g2, g1, h4, hk]) (hap j j' l1 l2 h)
    subst hjj
    have e01 : e1 = e0 := g2.symm.trans g1
    subst e01
    have hmod : es.modify j' (fun e => { e with val := val }) = es.modify j' (fun e' => { e' with key := key, val := val }) := by
      apply Array.ext
      · simp
      · intro i h5 h6
        rw [Array.getElem_modify, Array.getElem_modify]
        split
        · rename_i hij
          subst hij
          have : es[j'] = e1 := by simpa using g1
          rw [this, ← hk]
        · rfl
    have hset : ∀ o, (setObj b o).run P w = .ok () (setBlock w b o) := fun o => by
      rw [MapKept.run_setObj_map _ hb]; rfl
    simp [Instr.mapUpdate, Instr.entryStore, run_underlying ht, MapKept.run_getObj_map hb, K.check w false hkey, h1, hj, h4, K.stays w hkey, asInt, asIntOf, goInt, hfi, hmod, hset, Result.andThen]
end

section
variable {P : Program} {q : IntKind} (w : World) {ops : Array Oper} {rest : List Oper} {o : Oper} {a : Act} {Q : Exit → Act → World → Prop}
theorem wpList_entry_fn (hg : o.guard = none) (m x : Operand) (t : TypeId) (hop : o.op = Op.mapEntry t m x)
    (k e : TypeId) (K : Keyed P k) (ht : P.underlying t = some (.map k e)) (z : Value) (hz : ∀ u : World, (zeroValue e).run P u = .ok z u) (b n : Nat) (g : Int → Value)
    (hm : a.eval m = .map (some b)) (h : FnMap P k q z b n g w) (hn : n < maxLen) (key : Value) (kl : Int) (hx : a.eval x = key) (hkey : keyOf P k key = some (.int q kl))
    (hK : ∀ (v0 : Value) (st : Nat) w', FnMap P k q z b (n + 1) g w' → HasEntry b key st w' → w.grownBy w' (some b) → wpList P ops Q rest (a.put o.dst (.tuple #[v0, .int .i64 (st : Int)])) w') :
    wpList P ops Q (o :: rest) a w := by
  refine wpList_plain hg fun K' hK' => ?_
  obtain ⟨v0, st, w', hrun, h1, h2, h3⟩ := h.entry K ht hz hn hkey
  unfold Oper.wp
  simp [execOp, hop, hm, hx, hrun, Result.andThen]
  exact hK' _ _ (hK v0 st w' h1 h2 h3)

theorem wpList_estore_fn (hg : o.guard = none) (m s x : Operand) (t : TypeId) (hop : o.op = Op.entryStore t m s x)
    (k e : TypeId) (K : Keyed P k) (ht : P.underlying t = some (.map k e)) (z : Value) (b n : Nat) (g : Int → Value)
    (hm : a.eval m = .map (some b)) (h : FnMap P k q z b n g w) (hn : n < maxLen) (key val : Value) (kl : Int) (st : Nat) (hs : a.eval s = .int .i64 (st : Int)) (hv : a.eval x = val) (hkey : keyOf P k key = some (.int q kl)) (he : HasEntry b key st w)
    (hK : ∀ w', FnMap P k q z b (n + 1) (fun y => if y = kl then val else g y) w' → w.grownBy w' (some b) → wpList P ops Q rest (a.put o.dst undef) w') :
    wpList P ops Q (o :: rest) a w := by
  refine wpList_plain hg fun K' hK' => ?_
  have hsame := he.store (val := val) K ht h hkey
  obtain ⟨D, h, hi, h2⟩ := h
  obtain ⟨w', hrun, r1, r2⟩ := h.update K ht hn (d := .held val) (ps := []) hkey rfl
  have hrun' : (Instr.entryStore t (.map (some b)) (.int .i64 (st : Int)) val).run P w = .ok () w' := hsame.trans hrun
  unfold Oper.wp
  simp [execOp, hop, hm, hs, hv, hrun', Result.andThen]
  refine hK' _ _ (hK w' ⟨_, r1, hi.put _ _, fun y => ?_⟩ r2)
  by_cases hy : y = kl
  · subst hy; rw [atKey_put_same hi (show WideAt.IsKeyLit (.int q y) from trivial)]; simp
  · rw [atKey_put_other (fun e => hy (by injection e)), h2]; simp [hy]
end
end Go.Proofs.YtkpielgdfahanaaGreat
namespace Go.Proofs.YtkpielgdfahanaaGreat
open Go.RowKit Go.Maps

/-- An effect, as the program makes it. -/
inductive Eff where
  | nil | fn (f : Nat)
  | param (kind : Int) | both (kind : Int) | lowHalf (kind : Int) | wave (kind : Int) | doubled (kind most : Int) | extra (k kind : Int)
  | unless0 (e : Eff) | wholly (k : Int) (e : Eff) | halved (k : Int) (e : Eff) | low (k : Int) (e : Eff) | upTo (most : Int) (e : Eff)
  | byHigh (g : Int → Eff)

/-- A captured variable: a block of one cell. -/
def One (p : Nat → Prop) (w : World) (c : Nat) (x : Value) : Prop := p c ∧ ∃ ty, w.heap[c]? = some (.cells #[x] ty (0, 0))
def ptr (c : Nat) : Value := .pointer (some ⟨c, 0, none⟩)
def clo (f : Nat) (cap : List Value) : Value := .func (.func f) #[] cap.toArray

abbrev FnM := FnMap Tryz.prog 3 .i64 .nilFunc
abbrev FnC := FnMap Tryz.prog 5 .u8 .nilFunc

/-- A function value is this effect; the blocks that it leans on are of p. -/
def Lies (p : Nat → Prop) : Eff → Value → World → Prop
  | .nil, v, _ => v = .nilFunc
  | .fn f, v, _ => v = clo f []
  | .param n, v, w => ∃ c, v = clo 131 [ptr c] ∧ One p w c (.int .i64 n)
  | .both n, v, w => ∃ c, v = clo 130 [ptr c] ∧ One p w c (.int .i64 n)
  | .lowHalf n, v, w => ∃ c, v = clo 142 [ptr c] ∧ One p w c (.int .i64 n)
  | .wave n, v, w => ∃ c, v = clo 136 [ptr c] ∧ One p w c (.int .i64 n)
  | .doubled n m, v, w => ∃ c d, v = clo 138 [ptr c, ptr d] ∧ One p w c (.int .i64 n) ∧ One p w d (.int .i64 m)
  | .extra k n, v, w => ∃ c d, v = clo 119 [ptr c, ptr d] ∧ One p w c (.int .i64 k) ∧ One p w d (.int .i64 n)
  | .unless0 e, v, w => ∃ c v', v = clo 129 [ptr c] ∧ One p w c v' ∧ Lies p e v' w
  | .wholly k e, v, w => ∃ c d v', v = clo 132 [ptr c, ptr d] ∧ One p w c (.int .i64 k) ∧ One p w d v' ∧ Lies p e v' w
  | .halved k e, v, w => ∃ c d v', v = clo 133 [ptr c, ptr d] ∧ One p w c (.int .i64 k) ∧ One p w d v' ∧ Lies p e v' w
  | .low k e, v, w => ∃ c d v', v = clo 115 [ptr c, ptr d] ∧ One p w c (.int .i64 k) ∧ One p w d v' ∧ Lies p e v' w
  | .upTo m e, v, w => ∃ c d v', v = clo 139 [ptr c, ptr d] ∧ One p w c (.int .i64 m) ∧ One p w d v' ∧ Lies p e v' w
  | .byHigh g, v, w => ∃ c b n gv, v = clo 134 [ptr c] ∧ One p w c (.map (some b)) ∧ p b ∧ FnM b n gv w ∧ ∀ h, Lies p (g h) (gv h) w

/-- The blocks of p hold what they held. -/
def Same (p : Nat → Prop) (w w' : World) : Prop := ∀ c, p c → c < w.heap.size → w'.heap[c]? = w.heap[c]?

theorem One.keep {p : Nat → Prop} {w w' : World} {c : Nat} {x : Value} (h : One p w c x) (hs : Same p w w') : One p w' c x := by
  obtain ⟨hp, ty, h⟩ := h
  exact ⟨hp, ty, (hs c hp (Array.getElem?_eq_some_iff.1 h).1).trans h⟩
theorem One.wider {p p' : Nat → Prop} {w : World} {c : Nat} {x : Value} (h : One p w c x) (hs : ∀ c, p c → p' c) : One p' w c x := ⟨hs c h.1, h.2⟩
theorem Lies.keep {p : Nat → Prop} {w w' : World} (hs : Same p w w') : ∀ (e : Eff) (v : Value), Lies p e v w → Lies p e v w'
  | .nil, _, h => h
  | .fn _, _, h => h
  | .param _, _, ⟨c, h1, h2⟩ => ⟨c, h1, h2.keep hs⟩
  | .both _, _, ⟨c, h1, h2⟩ => ⟨c, h1, h2.keep hs⟩
  | .lowHalf _, _, ⟨c, h1, h2⟩ => ⟨c, h1, h2.keep hs⟩
  | .wave _, _, ⟨c, h1, h2⟩ => ⟨c, h1, h2.keep hs⟩
  | .doubled _ _, _, ⟨c, d, h1, h2, h3⟩ => ⟨c, d, h1, h2.keep hs, h3.keep hs⟩
  | .extra _ _, _, ⟨c, d, h1, h2, h3⟩ => ⟨c, d, h1, h2.keep hs, h3.keep hs⟩
  | .unless0 e, _, ⟨c, v', h1, h2, h3⟩ => ⟨c, v', h1, h2.keep hs, Lies.keep hs e v' h3⟩
  | .wholly _ e, _, ⟨c, d, v', h1, h2, h3, h4⟩ => ⟨c, d, v', h1, h2.keep hs, h3.keep hs, Lies.keep hs e v' h4⟩
  | .halved _ e, _, ⟨c, d, v', h1, h2, h3, h4⟩ => ⟨c, d, v', h1, h2.keep hs, h3.keep hs, Lies.keep hs e v' h4⟩
  | .low _ e, _, ⟨c, d, v', h1, h2, h3, h4⟩ => ⟨c, d, v', h1, h2.keep hs, h3.keep hs, Lies.keep hs e v' h4⟩
  | .upTo _ e, _, ⟨c, d, v', h1, h2, h3, h4⟩ => ⟨c, d, v', h1, h2.keep hs, h3.keep hs, Lies.keep hs e v' h4⟩
  | .byHigh g, _, ⟨c, b, n, gv, h1, h2, hb, h3, h4⟩ => ⟨c, b, n, gv, h1, h2.keep hs, hb, h3.kept (hs b hb h3.lt), fun x => Lies.keep hs (g x) _ (h4 x)⟩
theorem Lies.wider {p p' : Nat → Prop} {w : World} (hs : ∀ c, p c → p' c) : ∀ (e : Eff) (v : Value), Lies p e v w → Lies p' e v w
  | .nil, _, h => h
  | .fn _, _, h => h
  | .param _, _, ⟨c, h1, h2⟩ => ⟨c, h1, h2.wider hs⟩
  | .both _, _, ⟨c, h1, h2⟩ => ⟨c, h1, h2.wider hs⟩
  | .lowHalf _, _, ⟨c, h1, h2⟩ => ⟨c, h1, h2.wider hs⟩
  | .wave _, _, ⟨c, h1, h2⟩ => ⟨c, h1, h2.wider hs⟩
  | .doubled _ _, _, ⟨c, d, h1, h2, h3⟩ => ⟨c, d, h1, h2.wider hs, h3.wider hs⟩
  | .extra _ _, _, ⟨c, d, h1, h2, h3⟩ => ⟨c, d, h1, h2.wider hs, h3.wider hs⟩
  | .unless0 e, _, ⟨c, v', h1, h2, h3⟩ => ⟨c, v', h1, h2.wider hs, Lies.wider hs e v' h3⟩
  | .wholly _ e, _, ⟨c, d, v', h1, h2, h3, h4⟩ => ⟨c, d, v', h1, h2.wider hs, h3.wider hs, Lies.wider hs e v' h4⟩
  | .halved _ e, _, ⟨c, d, v', h1, h2, h3, h4⟩ => ⟨c, d, v', h1, h2.wider hs, h3.wider hs, Lies.wider hs e v' h4⟩
  | .low _ e, _, ⟨c, d, v', h1, h2, h3, h4⟩ => ⟨c, d, v', h1, h2.wider hs, h3.wider hs, Lies.wider hs e v' h4⟩
  | .upTo _ e, _, ⟨c, d, v', h1, h2, h3, h4⟩ => ⟨c, d, v', h1, h2.wider hs, h3.wider hs, Lies.wider hs e v' h4⟩
  | .byHigh g, _, ⟨c, b, n, gv, h1, h2, hb, h3, h4⟩ => ⟨c, b, n, gv, h1, h2.wider hs, hs b hb, h3, fun x => Lies.wider hs (g x) _ (h4 x)⟩

/-- Blocks from B on. -/
def From (B : Nat) (c : Nat) : Prop := B ≤ c
theorem same_below {w w' : World} (h : Below w.heap.size w w') (p : Nat → Prop) : Same p w w' := fun c _ hc => h.block c hc

/-- A maker of effects: what it hands back is e, and lies in blocks of p. -/
def Makes (p : Nat → Prop) (e : Eff) (w : World) (x : Ending) (w' : World) : Prop := ∃ f cap, x = .returned (.func f #[] cap) ∧ Lies p e (.func f #[] cap) w' ∧ Below w.heap.size w w'
/-- An effect that is there is a function value. -/
theorem Lies.fn {p : Nat → Prop} {e : Eff} {v : Value} {w : World} (h : Lies p e v w) (he : e ≠ .nil) : ∃ fn cap, v = .func fn #[] cap := by
  cases e with
  | nil => exact absurd rfl he
  | fn f => exact ⟨_, _, h⟩
  | param n => obtain ⟨c, h, _⟩ := h; exact ⟨_, _, h⟩
  | both n => obtain ⟨c, h, _⟩ := h; exact ⟨_, _, h⟩
  | lowHalf n => obtain ⟨c, h, _⟩ := h; exact ⟨_, _, h⟩
  | wave n => obtain ⟨c, h, _⟩ := h; exact ⟨_, _, h⟩
  | doubled n m => obtain ⟨c, d, h, _⟩ := h; exact ⟨_, _, h⟩
  | extra n m => obtain ⟨c, d, h, _⟩ := h; exact ⟨_, _, h⟩
  | unless0 e => obtain ⟨c, v', h, _⟩ := h; exact ⟨_, _, h⟩
  | wholly k e => obtain ⟨c, d, v', h, _⟩ := h; exact ⟨_, _, h⟩
  | halved k e => obtain ⟨c, d, v', h, _⟩ := h; exact ⟨_, _, h⟩
  | low k e => obtain ⟨c, d, v', h, _⟩ := h; exact ⟨_, _, h⟩
  | upTo m e => obtain ⟨c, d, v', h, _⟩ := h; exact ⟨_, _, h⟩
  | byHigh g => obtain ⟨c, b, n, gv, h, _⟩ := h; exact ⟨_, _, h⟩
/-- All new blocks are of p. -/
def News (p : Nat → Prop) (w : World) : Prop := ∀ c, w.heap.size ≤ c → p c

theorem mk_one {w : World} (n : Value) (ty : TypeId) : (w.alloc (.cells #[n] ty)).heap[w.heap.size]? = some (.cells #[n] ty (0, 0)) := heap_alloc_new w _
theorem makeFunc_run (fn : Fn) (first cap : Array Value) (w : World) : (Instr.makeFunc fn first cap).run Tryz.prog w = .ok (.func fn first cap) w := rfl
theorem below2 (w : World) (a b : Obj) : Below w.heap.size w ((w.alloc a).alloc b) := Below.grow (Below.grow (Below.refl _ _) _) _
theorem below1 (w : World) (a : Obj) : Below w.heap.size w (w.alloc a) := Below.grow (Below.refl _ _) _
theorem one1 {p : Nat → Prop} {w : World} (hp : News p w) (n : Value) (ty : TypeId) : One p (w.alloc (.cells #[n] ty)) w.heap.size n := ⟨hp _ (Nat.le_refl _), ty, heap_alloc_new w _⟩
theorem one2 {p : Nat → Prop} {w : World} (hp : News p w) (n x : Value) (ty tx : TypeId) : One p ((w.alloc (.cells #[n] ty)).alloc (.cells #[x] tx)) w.heap.size n :=
  (one1 hp n ty).keep (same_below (below1 _ _) p)
theorem one3 {p : Nat → Prop} {w : World} (hp : News p w) (n x : Value) (ty tx : TypeId) : One p ((w.alloc (.cells #[n] ty)).alloc (.cells #[x] tx)) (w.heap.size + 1) x := by
  have h := one1 (p := p) (w := w.alloc (.cells #[n] ty)) (fun c hc => hp c (by simp at hc; omega)) x tx
  simpa using h

theorem param_any (p : Nat → Prop) (n : Int) (w : World) (hp : Hid (News p w)) : Calls Tryz.prog 86 #[.int .i64 n] w (Makes p (.param n) w) := by
  have hmf := makeFunc_run
  go_enter Tryz.func86, Tryz.ntmps86
  go_wp2
  go_ret
  exact ⟨_, _, rfl, ⟨_, rfl, one1 hp _ _⟩, below1 _ _⟩
theorem both_any (p : Nat → Prop) (n : Int) (w : World) (hp : Hid (News p w)) : Calls Tryz.prog 85 #[.int .i64 n] w (Makes p (.both n) w) := by
  have hmf := makeFunc_run
  go_enter Tryz.func85, Tryz.ntmps85
  go_wp2
  go_ret
  exact ⟨_, _, rfl, ⟨_, rfl, one1 hp _ _⟩, below1 _ _⟩
theorem lowHalf_any (p : Nat → Prop) (n : Int) (w : World) (hp : Hid (News p w)) : Calls Tryz.prog 126 #[.int .i64 n] w (Makes p (.lowHalf n) w) := by
  have hmf := makeFunc_run
  go_enter Tryz.func126, Tryz.ntmps126
  go_wp2
  go_ret
  exact ⟨_, _, rfl, ⟨_, rfl, one1 hp _ _⟩, below1 _ _⟩
theorem wave_any (p : Nat → Prop) (n : Int) (w : World) (hp : Hid (News p w)) : Calls Tryz.prog 103 #[.int .i64 n] w (Makes p (.wave n) w) := by
  have hmf := makeFunc_run
  go_enter Tryz.func103, Tryz.ntmps103
  go_wp2
  go_ret
  exact ⟨_, _, rfl, ⟨_, rfl, one1 hp _ _⟩, below1 _ _⟩
theorem doubled_any (p : Nat → Prop) (n m : Int) (w : World) (hp : Hid (News p w)) : Calls Tryz.prog 114 #[.int .i64 n, .int .i64 m] w (Makes p (.doubled n m) w) := by
  have hmf := makeFunc_run
  go_enter Tryz.func114, Tryz.ntmps114
  go_wp2
  go_ret
  exact ⟨_, _, rfl, ⟨_, _, rfl, one2 hp _ _ _ _, one3 hp _ _ _ _⟩, below2 _ _ _⟩
theorem extra_any (p : Nat → Prop) (n m : Int) (w : World) (hp : Hid (News p w)) : Calls Tryz.prog 118 #[.int .i64 n, .int .i64 m] w (Makes p (.extra n m) w) := by
  have hmf := makeFunc_run
  go_enter Tryz.func118, Tryz.ntmps118
  go_wp2
  go_ret
  exact ⟨_, _, rfl, ⟨_, _, rfl, one2 hp _ _ _ _, one3 hp _ _ _ _⟩, below2 _ _ _⟩
theorem wholly_any (p : Nat → Prop) (n : Int) (e : Eff) (fn : Fn) (cap : Array Value) (w : World) (hp : Hid (News p w)) (hv : Hid (Lies p e (.func fn #[] cap) w)) : Calls Tryz.prog 87 #[.int .i64 n, .func fn #[] cap] w (Makes p (.wholly n e) w) := by
  have hmf := makeFunc_run
  go_enter Tryz.func87, Tryz.ntmps87
  go_wp2
  go_ret
  exact ⟨_, _, rfl, ⟨_, _, _, rfl, one2 hp _ _ _ _, one3 hp _ _ _ _, Lies.keep (same_below (below2 _ _ _) p) e _ hv⟩, below2 _ _ _⟩
theorem halved_any (p : Nat → Prop) (n : Int) (e : Eff) (fn : Fn) (cap : Array Value) (w : World) (hp : Hid (News p w)) (hv : Hid (Lies p e (.func fn #[] cap) w)) : Calls Tryz.prog 88 #[.int .i64 n, .func fn #[] cap] w (Makes p (.halved n e) w) := by
  have hmf := makeFunc_run
  go_enter Tryz.func88, Tryz.ntmps88
  go_wp2
  go_ret
  exact ⟨_, _, rfl, ⟨_, _, _, rfl, one2 hp _ _ _ _, one3 hp _ _ _ _, Lies.keep (same_below (below2 _ _ _) p) e _ hv⟩, below2 _ _ _⟩
theorem upTo_any (p : Nat → Prop) (n : Int) (e : Eff) (fn : Fn) (cap : Array Value) (w : World) (hp : Hid (News p w)) (hv : Hid (Lies p e (.func fn #[] cap) w)) : Calls Tryz.prog 120 #[.int .i64 n, .func fn #[] cap] w (Makes p (.upTo n e) w) := by
  have hmf := makeFunc_run
  go_enter Tryz.func120, Tryz.ntmps120
  go_wp2
  go_ret
  exact ⟨_, _, rfl, ⟨_, _, _, rfl, one2 hp _ _ _ _, one3 hp _ _ _ _, Lies.keep (same_below (below2 _ _ _) p) e _ hv⟩, below2 _ _ _⟩
theorem unless0_any (p : Nat → Prop) (e : Eff) (fn : Fn) (cap : Array Value) (w : World) (hp : Hid (News p w)) (hv : Hid (Lies p e (.func fn #[] cap) w)) : Calls Tryz.prog 84 #[.func fn #[] cap] w (Makes p (.unless0 e) w) := by
  have hmf := makeFunc_run
  go_enter Tryz.func84, Tryz.ntmps84
  go_wp2
  go_ret
  exact ⟨_, _, rfl, ⟨_, _, rfl, one1 hp _ _, Lies.keep (same_below (below1 _ _) p) e _ hv⟩, below1 _ _⟩

/-- A map of effects under way: block b, at most n entries, at each key x the effect G x. -/
def Tab (p : Nat → Prop) (k : TypeId) (q : IntKind) (b n : Nat) (G : Int → Eff) (w : World) : Prop :=
  ∃ g, FnMap Tryz.prog k q .nilFunc b n g w ∧ ∀ x, Lies p (G x) (g x) w
def upd (G : Int → Eff) (k : Int) (e : Eff) (x : Int) : Eff := if x = k then e else G x

theorem byHigh_any (p : Nat → Prop) (b n : Nat) (G : Int → Eff) (w : World) (hp : Hid (News p w)) (hb : Hid (p b)) (h : Hid (Tab p 3 .i64 b n G w)) : Calls Tryz.prog 97 #[.map (some b)] w (Makes p (.byHigh G) w) := by
  have hmf := makeFunc_run
  go_enter Tryz.func97, Tryz.ntmps97
  go_wp2
  go_ret
  obtain ⟨g, h1, h2⟩ := h
  exact ⟨_, _, rfl, ⟨_, b, n, g, rfl, one1 hp _ _, hb, h1.below (below1 _ _) h1.lt, fun x => Lies.keep (same_below (below1 _ _) p) _ _ (h2 x)⟩, below1 _ _⟩

section
variable {p : Nat → Prop} {k : TypeId} {q : IntKind} {b n : Nat} {G : Int → Eff} {w : World}
theorem Tab.keep {w' : World} (h : Tab p k q b n G w) (hb : Below w.heap.size w w') : Tab p k q b n G w' := by
  obtain ⟨g, h1, h2⟩ := h
  exact ⟨g, h1.below hb h1.lt, fun x => Lies.keep (same_below hb p) _ _ (h2 x)⟩
theorem Tab.lt (h : Tab p k q b n G w) : b < w.heap.size := by obtain ⟨g, h1, h2⟩ := h; exact h1.lt
theorem Tab.made (p : Nat → Prop) (k : TypeId) (q : IntKind) (w : World) : Tab p k q w.heap.size 0 (fun _ => .nil) (w.alloc (.map #[] 0)) := ⟨_, FnMap.made _ _ _ _ _, fun _ => rfl⟩
theorem Tab.put {w' : World} {g : Int → Value} {e : Eff} {v : Value} {kl : Int} (h : ∀ x, Lies p (G x) (g x) w) (hv : Lies p e v w) (hg : w.grownBy w' (some b)) (hnp : ¬ p b) :
    ∀ x, Lies p (upd G kl e x) ((fun y => if y = kl then v else g y) x) w' := fun x => by
  have hs : Same p w w' := fun c hc hl => hg.block c hl (fun e => by injection e with e; exact hnp (e ▸ hc))
  unfold upd
  by_cases hx : x = kl
  · simp only [hx, if_true]; exact Lies.keep hs _ _ hv
  · simp only [hx, if_false]; exact Lies.keep hs _ _ (h x)
theorem grown_below {w0 w1 w2 : World} {B b : Nat} (hb : Below B w0 w1) (hg : w1.grownBy w2 (some b)) (hB : B ≤ w0.heap.size) (h : B ≤ b) : Below B w0 w2 :=
  hb.grown hg (by have := hb.size; omega) (fun j hj => by cases hj; exact h)
end

section
variable {p : Nat → Prop} {q : IntKind} (w : World) {ops : Array Oper} {rest : List Oper} {o : Oper} {a : Act} {Q : Exit → Act → World → Prop}
theorem wpList_insert_tab {b n : Nat} {G : Int → Eff} (hg : o.guard = none) (m x v : Operand) (t : TypeId) (hop : o.op = Op.insert t m x v)
    (k e : TypeId) (K : Keyed Tryz.prog k) (ht : Tryz.prog.underlying t = some (.map k e)) (hm : a.eval m = .map (some b)) (h : Hid (Tab p k q b n G w)) (hn : n < maxLen) (kl : Int) (hkey : keyOf Tryz.prog k (a.eval x) = some (.int q kl))
    (E : Eff) (hv : Hid (Lies p E (a.eval v) w)) (hnp : ¬ p b)
    (hK : ∀ w', Hid (Tab p k q b (n + 1) (upd G kl E) w') → Hid (w.grownBy w' (some b)) → wpList Tryz.prog ops Q rest (a.put o.dst undef) w') : wpList Tryz.prog ops Q (o :: rest) a w := by
  obtain ⟨g, h1, h2⟩ := h
  exact wpList_insert_fn w hg m x v t hop k e K ht _ b n g hm h1 hn _ _ kl rfl rfl hkey fun w' r1 r2 => hK w' ⟨_, r1, Tab.put h2 hv r2 hnp⟩ r2
theorem wpList_update_tab {b n : Nat} {G : Int → Eff} (hg : o.guard = none) (m x v : Operand) (t : TypeId) (hop : o.op = Op.mapUpdate t m x v)
    (k e : TypeId) (K : Keyed Tryz.prog k) (ht : Tryz.prog.underlying t = some (.map k e)) (hm : a.eval m = .map (some b)) (h : Hid (Tab p k q b n G w)) (hn : n < maxLen) (kl : Int) (hkey : keyOf Tryz.prog k (a.eval x) = some (.int q kl))
    (E : Eff) (hv : Hid (Lies p E (a.eval v) w)) (hnp : ¬ p b)
    (hK : ∀ w', Hid (Tab p k q b (n + 1) (upd G kl E) w') → Hid (w.grownBy w' (some b)) → wpList Tryz.prog ops Q rest (a.put o.dst undef) w') : wpList Tryz.prog ops Q (o :: rest) a w := by
  obtain ⟨g, h1, h2⟩ := h
  exact wpList_update_fn w hg m x v t hop k e K ht _ b n g hm h1 hn _ _ kl rfl rfl hkey fun w' r1 r2 => hK w' ⟨_, r1, Tab.put h2 hv r2 hnp⟩ r2
theorem wpList_entry_tab {b n : Nat} {G : Int → Eff} (hg : o.guard = none) (m x : Operand) (t : TypeId) (hop : o.op = Op.mapEntry t m x)
    (k e : TypeId) (K : Keyed Tryz.prog k) (ht : Tryz.prog.underlying t = some (.map k e)) (hz : ∀ u : World, (zeroValue e).run Tryz.prog u = .ok .nilFunc u) (hm : a.eval m = .map (some b)) (h : Hid (Tab p k q b n G w)) (hn : n < maxLen) (kl : Int) (hkey : keyOf Tryz.prog k (a.eval x) = some (.int q kl)) (hnp : ¬ p b)
    (hK : ∀ (v0 : Value) (st : Nat) w', Hid (Tab p k q b (n + 1) G w') → Hid (HasEntry b (a.eval x) st w') → Hid (w.grownBy w' (some b)) → wpList Tryz.prog ops Q rest (a.put o.dst (.tuple #[v0, .int .i64 (st : Int)])) w') : wpList Tryz.prog ops Q (o :: rest) a w := by
  obtain ⟨g, h1, h2⟩ := h
  exact wpList_entry_fn w hg m x t hop k e K ht _ hz b n g hm h1 hn _ kl rfl hkey fun v0 st w' r1 r2 r3 => hK v0 st w' ⟨_, r1, fun y => Lies.keep (fun c hc hl => r3.block c hl (fun e => by injection e with e; exact hnp (e ▸ hc))) _ _ (h2 y)⟩ r2 r3
theorem wpList_estore_tab {b n : Nat} {G : Int → Eff} (hg : o.guard = none) (m s v : Operand) (t : TypeId) (hop : o.op = Op.entryStore t m s v)
    (k e : TypeId) (K : Keyed Tryz.prog k) (ht : Tryz.prog.underlying t = some (.map k e)) (hm : a.eval m = .map (some b)) (h : Hid (Tab p k q b n G w)) (hn : n < maxLen) (key : Value) (kl : Int) (st : Nat) (hs : a.eval s = .int .i64 (st : Int)) (hkey : keyOf Tryz.prog k key = some (.int q kl)) (he : Hid (HasEntry b key st w))
    (E : Eff) (hv : Hid (Lies p E (a.eval v) w)) (hnp : ¬ p b)
    (hK : ∀ w', Hid (Tab p k q b (n + 1) (upd G kl E) w') → Hid (w.grownBy w' (some b)) → wpList Tryz.prog ops Q rest (a.put o.dst undef) w') : wpList Tryz.prog ops Q (o :: rest) a w := by
  obtain ⟨g, h1, h2⟩ := h
  exact wpList_estore_fn w hg m s v t hop k e K ht _ b n g hm h1 hn key _ kl st hs rfl hkey he fun w' r1 r2 => hK w' ⟨_, r1, Tab.put h2 hv r2 hnp⟩ r2
end
end Go.Proofs.YtkpielgdfahanaaGreat
