/- dialect.fast: the effects of fast. -/
import Derived.Test.YtkpielgdfahanaaGreatRng
import Derived.Laws.EntriesVeiled
/- dialect.fast: the effects of fast. -/
namespace Go.Proofs.YtkpielgdfahanaaGreat
open Go.RowKit Go.Maps

def fastK (x : Int) : Option Value := if x = 65 then some (.int .i64 7) else if x = 54 then some (.int .i64 7) else if x = 53 then some (.int .i64 7) else if x = 50 then some (.int .i64 6) else if x = 49 then some (.int .i64 5) else none
def fastH (x : Int) : Option Value := if x = 11 then some (.int .i64 11) else if x = 10 then some (.int .i64 10) else if x = 2 then some (.int .i64 9) else if x = 1 then some (.int .i64 8) else none
/-- The effects that the first loop has turned. -/
def turn1 (G : Int → Eff) (h : Int → Option Value) (left : Int → Bool) (x : Int) : Eff :=
  match h x with | some (.int .i64 k) => if left x then G x else .wholly k (G x) | _ => G x
def turn2 (G : Int → Eff) (h : Int → Option Value) (left : Int → Bool) (x : Int) : Eff :=
  match h x with | some (.int .i64 k) => if left x then G x else .low k (G x) | _ => G x

theorem turn1_start (G : Int → Eff) (h : Int → Option Value) : turn1 G h (fun x => (h x).isSome) = G := by
  funext x; unfold turn1; cases hx : h x with
  | none => rfl
  | some v => cases v <;> try rfl
              rename_i k n; cases k <;> simp [hx]
theorem turn1_at {G : Int → Eff} {h : Int → Option Value} {left : Int → Bool} {x : Int} (hl : left x = true) : turn1 G h left x = G x := by
  unfold turn1; split
  · rw [if_pos hl]
  · rfl
theorem turn1_step {G : Int → Eff} {h : Int → Option Value} {left : Int → Bool} {x k : Int} (hx : h x = some (.int .i64 k)) : upd (turn1 G h left) x (.wholly k (G x)) = turn1 G h (fun y => left y && !(y == x)) := by
  funext y; unfold upd
  by_cases hy : y = x
  · subst hy; simp [turn1, hx]
  · simp [turn1, hy]
theorem turn2_start (G : Int → Eff) (h : Int → Option Value) : turn2 G h (fun x => (h x).isSome) = G := by
  funext x; unfold turn2; cases hx : h x with
  | none => rfl
  | some v => cases v <;> try rfl
              rename_i k n; cases k <;> simp [hx]
theorem turn2_at {G : Int → Eff} {h : Int → Option Value} {left : Int → Bool} {x : Int} (hl : left x = true) : turn2 G h left x = G x := by
  unfold turn2; split
  · rw [if_pos hl]
  · rfl
theorem turn2_step {G : Int → Eff} {h : Int → Option Value} {left : Int → Bool} {x k : Int} (hx : h x = some (.int .i64 k)) : upd (turn2 G h left) x (.low k (G x)) = turn2 G h (fun y => left y && !(y == x)) := by
  funext y; unfold upd
  by_cases hy : y = x
  · subst hy; simp [turn2, hx]
  · simp [turn2, hy]
theorem fastK_int {x : Int} {v : Value} (h : fastK x = some v) : ∃ k, v = .int .i64 k ∧ fourE x ≠ .nil := by
  unfold fastK at h
  split at h
  · rename_i e; subst e; cases h; exact ⟨_, rfl, by simp [fourE, upd]⟩
  split at h
  · rename_i e; subst e; cases h; exact ⟨_, rfl, by simp [fourE, upd]⟩
  split at h
  · rename_i e; subst e; cases h; exact ⟨_, rfl, by simp [fourE, upd]⟩
  split at h
  · rename_i e; subst e; cases h; exact ⟨_, rfl, by simp [fourE, upd]⟩
  split at h
  · rename_i e; subst e; cases h; exact ⟨_, rfl, by simp [fourE, upd]⟩
  · cases h
theorem fastH_int {x : Int} {v : Value} (h : fastH x = some v) : ∃ k, v = .int .i64 k ∧ extE x ≠ .nil := by
  unfold fastH at h
  split at h
  · rename_i e; subst e; cases h; exact ⟨_, rfl, by simp [extE, upd]⟩
  split at h
  · rename_i e; subst e; cases h; exact ⟨_, rfl, by simp [extE, upd]⟩
  split at h
  · rename_i e; subst e; cases h; exact ⟨_, rfl, by simp [extE, upd]⟩
  split at h
  · rename_i e; subst e; cases h; exact ⟨_, rfl, by simp [extE, upd]⟩
  · cases h

theorem Tab.other {p : Nat → Prop} {k : TypeId} {q : IntKind} {m r N : Nat} {G : Int → Eff} {w w' : World} (h : Tab p k q m N G w) (hg : w.grownBy w' (some r)) (hp : ¬ p r) (hm : m ≠ r) : Tab p k q m N G w' := by
  obtain ⟨g, h1, h2⟩ := h
  exact ⟨g, h1.kept (hg.block m h1.lt (fun e => hm (by injection e))), fun x => Lies.keep (same_grown hg hp) _ _ (h2 x)⟩
/-- A literal map b and a range r over it have been laid: the effects lean on neither. -/
theorem rephase {w w9 w7 : World} {p : Nat → Prop} {k : TypeId} {q : IntKind} {m N b r : Nat} {G : Int → Eff} (HT : Tab p k q m N G w9) (Hp : ¬ p m) (Hs : ∀ c, p c → w.heap.size ≤ c) (HB : Below w.heap.size w w9)
    (hb : b = w9.heap.size) (hr : b < r) (h7 : w7.heap.size = r + 1) (h97 : Below w9.heap.size w9 w7) :
    ∃ p' : Nat → Prop, Tab p' k q m N G w7 ∧ ¬ p' m ∧ ¬ p' b ∧ ¬ p' r ∧ News p' w7 ∧ (∀ c, p' c → w.heap.size ≤ c) ∧ m < b ∧ (∀ c, p c → c < b → p' c) ∧ ∀ c, p' c → (p c ∧ c < b) ∨ r < c := by
  have hlt := HT.lt
  have hs := HB.size
  refine ⟨fun c => (p c ∧ c < w9.heap.size) ∨ r < c, Tab.keep (Tab.wider (fun c hc => Or.inl hc) (Tab.within HT)) h97, fun h => ?_, fun h => ?_, fun h => ?_, fun c hc => Or.inr (by omega), fun c hc => ?_, by omega, fun c hc hl => Or.inl ⟨hc, by omega⟩, fun c hc => by rw [hb]; exact hc⟩
  · rcases h with h | h
    · exact Hp h.1
    · omega
  · rcases h with h | h <;> omega
  · rcases h with h | h <;> omega
  · rcases hc with h | h
    · exact Hs c h.1
    · omega

/-- Two tables under way. -/
theorem join2 {w wr w9 : World} {p p2 : Nat → Prop} {m m2 M N : Nat} {G G2 : Int → Eff} (HT : Tab p 5 .u8 m M G wr) (Hp : ¬ p m) (Hs : ∀ c, p c → w.heap.size ≤ c) (HB : Below w.heap.size w wr)
    (h2 : Tab p2 3 .i64 m2 N G2 w9) (hp2 : ¬ p2 m2) (hs2 : ∀ c, p2 c → wr.heap.size ≤ c) (hn2 : News p2 w9) (hm2 : wr.heap.size ≤ m2) (hb : Below wr.heap.size wr w9) :
    ∃ q : Nat → Prop, Tab q 5 .u8 m M G w9 ∧ Tab q 3 .i64 m2 N G2 w9 ∧ ¬ q m ∧ ¬ q m2 ∧ (∀ c, q c → w.heap.size ≤ c) ∧ News q w9 ∧ Below w.heap.size w w9 ∧ m < m2 := by
  have hlt := HT.lt
  have hs := HB.size
  refine ⟨fun c => (p c ∧ c < wr.heap.size) ∨ p2 c, Tab.keep (Tab.wider (fun c hc => Or.inl hc) (Tab.within HT)) hb, Tab.wider (fun c hc => Or.inr hc) h2, fun h => ?_, fun h => ?_, fun c hc => ?_, fun c hc => Or.inr (hn2 c hc), Below.step HB hb, by omega⟩
  · rcases h with h | h
    · exact Hp h.1
    · have := hs2 _ h; omega
  · rcases h with h | h
    · omega
    · exact hp2 h
  · rcases hc with h | h
    · exact Hs c h.1
    · have := hs2 c h; omega
theorem low_lies {p : Nat → Prop} {w : World} {e : Eff} {k : Int} {fn : Fn} {cap : Array Value} (hp : News p w) (tx ty : TypeId)
    (h : Lies p e (.func fn #[] cap) (w.alloc (.cells #[.int .i64 k] tx))) :
    Lies p (.low k e) (.func (.func 115) #[] #[.pointer (some ⟨w.heap.size, 0, none⟩), .pointer (some ⟨w.heap.size + 1, 0, none⟩)])
      ((w.alloc (.cells #[.int .i64 k] tx)).alloc (.cells #[.func fn #[] cap] ty)) :=
  ⟨_, _, _, rfl, one2 hp _ _ _ _, one3 hp _ _ _ _, Lies.keep (same_below (below1 _ _) p) _ _ h⟩

/-- The second table is laid open to be captured. -/
theorem laid {w wr : World} {p : Nat → Prop} {m m2 M N : Nat} {G G2 : Int → Eff} (HT : Tab p 5 .u8 m M G wr) (HT2 : Tab p 3 .i64 m2 N G2 wr) (Hp : ¬ p m) (Hs : ∀ c, p c → w.heap.size ≤ c) (HN : News p wr) (hm : m ≠ m2) (hs : w.heap.size ≤ m2) :
    ∃ q : Nat → Prop, Tab q 5 .u8 m M G wr ∧ Tab q 3 .i64 m2 N G2 wr ∧ ¬ q m ∧ q m2 ∧ News q wr ∧ ∀ c, q c → w.heap.size ≤ c :=
  ⟨fun c => p c ∨ c = m2, Tab.wider (fun _ hc => Or.inl hc) HT, Tab.wider (fun _ hc => Or.inl hc) HT2, fun h => h.elim Hp hm, Or.inr rfl, fun c hc => Or.inl (HN c hc), fun c hc => hc.elim (Hs c) (fun e => e ▸ hs)⟩
/-- A new map is laid beside a table. -/
theorem phase3 {w w9 : World} {p : Nat → Prop} {m N : Nat} {G : Int → Eff} (HT : Tab p 5 .u8 m N G w9) (Hp : ¬ p m) (Hs : ∀ c, p c → w.heap.size ≤ c) (HB : Below w.heap.size w w9) :
    ∃ q : Nat → Prop, Tab q 5 .u8 m N G (w9.alloc (.map #[] 0)) ∧ ¬ q m ∧ News q (w9.alloc (.map #[] 0)) ∧ ¬ q w9.heap.size ∧ (∀ c, q c → w.heap.size ≤ c) ∧
      Tab q 3 .i64 w9.heap.size 0 (fun _ => .nil) (w9.alloc (.map #[] 0)) ∧ Below w.heap.size w (w9.alloc (.map #[] 0)) ∧ w.heap.size ≤ w9.heap.size ∧ m < w9.heap.size := by
  have hlt := HT.lt
  have hsz := HB.size
  refine ⟨fun c => (p c ∧ c < w9.heap.size) ∨ w9.heap.size < c, Tab.keep (Tab.wider (fun c hc => Or.inl hc) (Tab.within HT)) (below1 w9 _), fun h => ?_, fun c hc => ?_, fun h => ?_, fun c hc => ?_, Tab.made _ _ _ _, Below.step HB (below1 w9 _), hsz, hlt⟩
  · rcases h with h | h
    · exact Hp h.1
    · omega
  · simp at hc; exact Or.inr (by omega)
  · rcases h with h | h <;> omega
  · rcases hc with h | h
    · exact Hs c h.1
    · omega
/-- The effects of fast. -/
def fastX : Int → Eff := upd (upd (fun _ => .nil) 1 (.extra 16 6)) 2 (.extra 17 7)
def fast1E : Int → Eff := turn1 fourE fastK (fun _ => false)
def fast2E : Int → Eff := turn2 extE fastH (fun _ => false)
def fastE : Int → Eff := upd (upd (upd (upd (upd (upd (upd (upd (upd (fast1E) 69 (.byHigh fast2E)) 71 (.doubled 28 64)) 72 (.wholly 12 (.both 29))) 75 (.param 23)) 76 (.param 39)) 80 (.wholly 13 (.both 17))) 82 (.halved 14 (.fn 117))) 84 (.wholly 15 (.fn 108))) 88 (.byHigh fastX)
end Go.Proofs.YtkpielgdfahanaaGreat
namespace Go.Proofs.YtkpielgdfahanaaGreat
open Go.RowKit Go.Maps

set_option maxHeartbeats 4000000 in
set_option maxRecDepth 100000 in
theorem fast_any (w : World) : Calls Tryz.prog 80 #[] w (BuiltN 2000 5 .u8 fastE w) := by
  have hmm := @run_makeMap Tryz.prog
  have hmf := makeFunc_run
  go_enter Tryz.func80, Tryz.ntmps80
  go_wp2_with fail
  go_at_call 78
  refine (four_any _).mono ?_
  rintro e w9 ⟨m, N, p, rfl, hm, hs, hp, hn, hN, ht, hb⟩
  have HT := hid ht
  have HN := hid hn
  have HB := hid hb
  have Hm := hid hm
  have Hp := hid hp
  have Hs := hid hs
  have HNN := hid hN
  clear ht hn hb hm hp hs hN
  have HO : Hid (OMap Tryz.prog 5 .u8 w9.heap.size 0 (fun _ => none) (w9.alloc (.map #[] 0))) := hid (OMap.made _ _ _ _)
  have HG : Hid (Below w9.heap.size w9 (w9.alloc (.map #[] 0))) := hid (below1 _ _)
  go_wp2_with (first
    | ((with_reducible change wpList _ _ _ (⟨_, Op.insert _ _ _ _, _, _, _, _⟩ :: _) _ _); refine wpList_insert_o _ rfl _ _ _ 91 rfl 5 3 key5 Tryz.underlying91 _ _ _ rfl HO (by unfold maxLen; omega) _ (keyOf_int_mk Tryz.underlying5 (by decide)) (.int .i64 _) rfl ?_; intro w8 ho hg; replace HO := ho; replace HG := hid (grown_below HG.out hg.out (Nat.le_refl _) (Nat.le_refl _)); clear ho hg)
    | (at_range; refine wpList_range_o _ rfl _ 91 rfl 5 3 key5 Tryz.underlying91 _ _ _ rfl HO ?_; intro w7 cnt HR hcnt hg hsz)
    | fail)
  obtain ⟨b, hbe⟩ : ∃ b, b = w9.heap.size := ⟨_, rfl⟩
  obtain ⟨r, hre⟩ : ∃ r, r = w8.heap.size := ⟨_, rfl⟩
  have HR1 : Hid (ORan Tryz.prog 5 .u8 b r 5 fastK (fun x => (fastK x).isSome) cnt w7) := by rw [hbe, hre]; exact HR
  have hbr : b < r := by rw [hbe, hre]; exact HO.out.lt
  have hb97 : Below w9.heap.size w9 w7 := HG.out.grown hg.out HG.out.size (fun j hj => by cases hj)
  obtain ⟨p', f1, f2, f3, f4, f5, f6, f7, _⟩ := rephase HT.out Hp.out Hs.out HB.out hbe hbr (by rw [hsz, ← hre]) hb97
  replace HB := hid (Below.step HB.out hb97)
  have HC := hid hcnt
  rw [← hbe, ← hre]
  have Hbr := hid hbr
  clear HR HO HG hg hsz hb97 hcnt hbe hre HT HN Hp Hs hbr
  have HT : Hid (Tab p' 5 .u8 m N (turn1 fourE fastK (fun x => (fastK x).isSome)) w7) := hid (by rw [turn1_start]; exact f1)
  have Hp := hid f2
  have Hpb := hid f3
  have Hpr := hid f4
  have HN := hid f5
  have Hs := hid f6
  have Hmb := hid f7
  clear f1 f2 f3 f4 f5 f6 f7
  go_frame
  go_loopw [2, 3] (fun _ _ wr => ∃ (left : Int → Bool) (cn M : Nat), Hid (ORan Tryz.prog 5 .u8 b r 5 fastK left cn wr) ∧ Hid (Tab p' 5 .u8 m M (turn1 fourE fastK left) wr) ∧ Hid (M + cn ≤ 1005) ∧ Hid (News p' wr) ∧ Hid (Below w.heap.size w wr)) (fun _ _ wr => wr.rangeLeft b r)
  case atStart => exact ⟨_, cnt, N, HR1, HT, hid (by have := HC.out; have := HNN.out; omega), HN, HB⟩
  case round =>
    clear HT HN HB HR1 HC HNN
    obtain ⟨left, cn, M, HR, HT, HM, HN, HB⟩ := hrel
    go_wp2_with (first
      | (at_next; refine wpList_next_o _ rfl _ rfl 5 key5 Tryz.underlying5 _ _ _ _ _ _ rfl HR ?_ ?_)
      | fail)
    · intro hl
      have hl2 : left = fun _ => false := funext hl
      subst hl2
      clear hl HR
      go_wp2_with fail
      go_at_call 98
      refine (extended_any _).mono ?_
      rintro e w9 ⟨m2, N2, p2, rfl, hm2, hs2, hp2, hn2, hN2, ht2, hb2⟩
      obtain ⟨q, g1, g2, g3, g4, g5, g6, g7, g8⟩ := join2 HT.out Hp.out Hs.out HB.out ht2 hp2 hs2 hn2 hm2 hb2
      have HMM := hid HM.out
      have HN2 := hid hN2
      clear HT HN HB Hp Hs ht2 hp2 hs2 hn2 hb2 hm2 HM hN2 Hpb Hpr Hmb Hbr
      have HT := hid g1
      have HT2 := hid g2
      have Hp := hid g3
      have Hp2 := hid g4
      have Hs := hid g5
      have HN := hid g6
      have HB := hid g7
      have Hmm := hid g8
      clear g1 g2 g3 g4 g5 g6 g7 g8
      have HO : Hid (OMap Tryz.prog 3 .i64 w9.heap.size 0 (fun _ => none) (w9.alloc (.map #[] 0))) := hid (OMap.made _ _ _ _)
      have HG : Hid (Below w9.heap.size w9 (w9.alloc (.map #[] 0))) := hid (below1 _ _)
      go_wp2_with (first
        | ((with_reducible change wpList _ _ _ (⟨_, Op.insert _ _ _ _, _, _, _, _⟩ :: _) _ _); refine wpList_insert_o _ rfl _ _ _ 65 rfl 3 3 key3 Tryz.underlying65 _ _ _ rfl HO (by unfold maxLen; omega) _ (keyOf_int_mk Tryz.underlying3 (by decide)) (.int .i64 _) rfl ?_; intro w8 ho hg; replace HO := ho; replace HG := hid (grown_below HG.out hg.out (Nat.le_refl _) (Nat.le_refl _)); clear ho hg)
        | (at_range; refine wpList_range_o _ rfl _ 65 rfl 3 3 key3 Tryz.underlying65 _ _ _ rfl HO ?_; intro w7 cnt HR hcnt hg hsz)
        | fail)
      obtain ⟨b, hbe⟩ : ∃ b, b = w9.heap.size := ⟨_, rfl⟩
      obtain ⟨r, hre⟩ : ∃ r, r = w8.heap.size := ⟨_, rfl⟩
      have HR1 : Hid (ORan Tryz.prog 3 .i64 b r 4 fastH (fun x => (fastH x).isSome) cnt w7) := by rw [hbe, hre]; exact HR
      have hbr : b < r := by rw [hbe, hre]; exact HO.out.lt
      have hb97 : Below w9.heap.size w9 w7 := HG.out.grown hg.out HG.out.size (fun j hj => by cases hj)
      obtain ⟨p', f1, f2, f3, f4, f5, f6, f7, f8, f9⟩ := rephase HT2.out Hp2.out Hs.out HB.out hbe hbr (by rw [hsz, ← hre]) hb97
      have hT1 : Tab p' 5 .u8 m M (turn1 fourE fastK (fun _ => false)) w7 := Tab.keep (Tab.wider (fun c hc => f8 c hc.1 (by rw [hbe]; exact hc.2)) (Tab.within HT.out)) hb97
      have hP1 : ¬ p' m := fun h => by
        rcases f9 m h with h | h
        · exact Hp.out h.1
        · have := Hmm.out; omega
      replace HB := hid (Below.step HB.out hb97)
      have HC := hid hcnt
      rw [← hbe, ← hre]
      have Hbr := hid hbr
      have HSZ := hid Hm.out
      clear HR HO HG hg hsz hb97 hcnt hbe hre HT HT2 HN Hp Hp2 Hs hbr f8 f9
      have HT := hid hT1
      have HT2 : Hid (Tab p' 3 .i64 m2 N2 (turn2 extE fastH (fun x => (fastH x).isSome)) w7) := hid (by rw [turn2_start]; exact f1)
      have Hp := hid hP1
      have Hp2 := hid f2
      have Hpb := hid f3
      have Hpr := hid f4
      have HN := hid f5
      have Hs := hid f6
      have Hmb := hid f7
      clear f1 f2 f3 f4 f5 f6 f7 hT1 hP1
      go_frame
      go_loopw [5, 6, 7] (fun _ _ _ wr => ∃ (left : Int → Bool) (cn M2 : Nat), Hid (ORan Tryz.prog 3 .i64 b r 4 fastH left cn wr) ∧ Hid (Tab p' 5 .u8 m M (turn1 fourE fastK (fun _ => false)) wr) ∧ Hid (Tab p' 3 .i64 m2 M2 (turn2 extE fastH left) wr) ∧ Hid (M2 + cn ≤ 1005) ∧ Hid (News p' wr) ∧ Hid (Below w.heap.size w wr)) (fun _ _ _ wr => wr.rangeLeft b r)
      case atStart => exact ⟨_, cnt, N2, HR1, HT, HT2, hid (by have := HC.out; have := HN2.out; omega), HN, HB⟩
      case round =>
        clear HT HT2 HN HB HR1 HC HN2
        obtain ⟨left, cn, M2, HR, HT, HT2, HM, HN, HB⟩ := hrel
        go_wp2_with (first
          | (at_next; refine wpList_next_o _ rfl _ rfl 3 key3 Tryz.underlying3 _ _ _ _ _ _ rfl HR ?_ ?_)
          | fail)
        · intro hl
          have hl2 : left = fun _ => false := funext hl
          subst hl2
          have hMM : M ≤ 1005 := by have := HMM.out; omega
          obtain ⟨q, g1, g2, g3, g4, g5, g6⟩ := laid HT.out HT2.out Hp.out Hs.out HN.out (by have := Hmm.out; omega) (by have := HSZ.out; have := Hmm.out; omega)
          clear hl HR HT HT2 Hp Hp2 HN Hs HM HMM Hpb Hpr Hmb Hbr
          have HT := hid g1
          have HT2 := hid g2
          have Hp := hid g3
          have Hm2 := hid g4
          have HN := hid g5
          have Hs := hid g6
          have HV : Hid (Lies q .nil .nilFunc wr) := hid rfl
          have HU : Hid (Lies q .nil .nilFunc wr) := hid rfl
          clear g1 g2 g3 g4 g5 g6
          go_wp2_with (first
              | ((with_reducible change wpList _ _ _ (⟨_, Op.insert _ _ _ _, _, _, _, _⟩ :: _) _ _); refine wpList_insert_tab _ rfl _ _ _ 51 rfl 5 77 key5 Tryz.underlying51 rfl HT (by unfold maxLen; omega) _ (keyOf_int_mk Tryz.underlying5 (by decide)) _ (by first | exact HV | exact HU | exact fnLies q _ _) Hp.out ?_; intro w9 ht hg; replace HT2 := hid (Tab.grown HT2.out hg.out Hp.out Hm2.out); replace HT := ht; replace HN := hid (News.grown HN.out hg.out); replace HB := hid (grown_below HB.out hg.out (Nat.le_refl _) Hm.out); replace HV := hid (Lies.keep (same_grown hg.out Hp.out) _ _ HV.out); replace HU := hid (Lies.keep (same_grown hg.out Hp.out) _ _ HU.out); clear ht hg)
              | (at_mapUpdate; refine wpList_update_tab _ rfl _ _ _ 51 rfl 5 77 key5 Tryz.underlying51 rfl HT (by unfold maxLen; omega) _ (keyOf_int_mk Tryz.underlying5 (by decide)) _ (by first | exact HV | exact HU | exact fnLies q _ _) Hp.out ?_; intro w9 ht hg; replace HT2 := hid (Tab.grown HT2.out hg.out Hp.out Hm2.out); replace HT := ht; replace HN := hid (News.grown HN.out hg.out); replace HB := hid (grown_below HB.out hg.out (Nat.le_refl _) Hm.out); replace HV := hid (Lies.keep (same_grown hg.out Hp.out) _ _ HV.out); replace HU := hid (Lies.keep (same_grown hg.out Hp.out) _ _ HU.out); clear ht hg)
              | ((with_reducible change wpList _ _ _ (⟨_, Op.mapEntry _ _ _, _, _, _, _⟩ :: _) _ _); refine wpList_entry_tab _ rfl _ _ 51 rfl 5 77 key5 Tryz.underlying51 zero77 rfl HT (by unfold maxLen; omega) _ (keyOf_int_mk Tryz.underlying5 (by decide)) Hp.out ?_; intro v0 st w9 ht he hg; replace HT2 := hid (Tab.grown HT2.out hg.out Hp.out Hm2.out); replace HT := ht; replace HN := hid (News.grown HN.out hg.out); replace HB := hid (grown_below HB.out hg.out (Nat.le_refl _) Hm.out); replace HV := hid (Lies.keep (same_grown hg.out Hp.out) _ _ HV.out); replace HU := hid (Lies.keep (same_grown hg.out Hp.out) _ _ HU.out); clear ht hg)
              | ((with_reducible change wpList _ _ _ (⟨_, Op.entryStore _ _ _ _, _, _, _, _⟩ :: _) _ _); refine wpList_estore_tab _ rfl _ _ _ 51 rfl 5 77 key5 Tryz.underlying51 rfl HT (by unfold maxLen; omega) _ _ _ rfl (keyOf_int_mk Tryz.underlying5 (by decide)) he _ (by first | exact HV | exact HU | exact fnLies q _ _) Hp.out ?_; intro w9 ht hg; clear he; replace HT2 := hid (Tab.grown HT2.out hg.out Hp.out Hm2.out); replace HT := ht; replace HN := hid (News.grown HN.out hg.out); replace HB := hid (grown_below HB.out hg.out (Nat.le_refl _) Hm.out); replace HV := hid (Lies.keep (same_grown hg.out Hp.out) _ _ HV.out); replace HU := hid (Lies.keep (same_grown hg.out Hp.out) _ _ HU.out); clear ht hg)
              | (go_at_call 97; refine (byHigh_any q _ _ _ _ HN.out Hm2.out HT2.out).mono ?_; rintro e9 w9 ⟨f9, c9, rfl, hl, hb⟩; replace HT2 := hid (Tab.keep HT2.out hb); replace HT := hid (Tab.keep HT.out hb); replace HN := hid (News.up HN.out hb); replace HB := hid (Below.step HB.out hb); replace HU := hid (Lies.keep (same_below hb q) _ _ HV.out); replace HV := hid hl; clear hl hb)
              | (go_at_call 114; refine (doubled_any q _ _ _ HN.out).mono ?_; rintro e9 w9 ⟨f9, c9, rfl, hl, hb⟩; replace HT2 := hid (Tab.keep HT2.out hb); replace HT := hid (Tab.keep HT.out hb); replace HN := hid (News.up HN.out hb); replace HB := hid (Below.step HB.out hb); replace HU := hid (Lies.keep (same_below hb q) _ _ HV.out); replace HV := hid hl; clear hl hb)
              | (go_at_call 85; refine (both_any q _ _ HN.out).mono ?_; rintro e9 w9 ⟨f9, c9, rfl, hl, hb⟩; replace HT2 := hid (Tab.keep HT2.out hb); replace HT := hid (Tab.keep HT.out hb); replace HN := hid (News.up HN.out hb); replace HB := hid (Below.step HB.out hb); replace HU := hid (Lies.keep (same_below hb q) _ _ HV.out); replace HV := hid hl; clear hl hb)
              | (go_at_call 87; refine (wholly_any q _ _ _ _ _ HN.out (by first | exact HV | exact fnLies q _ _)).mono ?_; rintro e9 w9 ⟨f9, c9, rfl, hl, hb⟩; replace HT2 := hid (Tab.keep HT2.out hb); replace HT := hid (Tab.keep HT.out hb); replace HN := hid (News.up HN.out hb); replace HB := hid (Below.step HB.out hb); replace HU := hid (Lies.keep (same_below hb q) _ _ HV.out); replace HV := hid hl; clear hl hb)
              | (go_at_call 86; refine (param_any q _ _ HN.out).mono ?_; rintro e9 w9 ⟨f9, c9, rfl, hl, hb⟩; replace HT2 := hid (Tab.keep HT2.out hb); replace HT := hid (Tab.keep HT.out hb); replace HN := hid (News.up HN.out hb); replace HB := hid (Below.step HB.out hb); replace HU := hid (Lies.keep (same_below hb q) _ _ HV.out); replace HV := hid hl; clear hl hb)
              | (go_at_call 88; refine (halved_any q _ _ _ _ _ HN.out (by first | exact HV | exact fnLies q _ _)).mono ?_; rintro e9 w9 ⟨f9, c9, rfl, hl, hb⟩; replace HT2 := hid (Tab.keep HT2.out hb); replace HT := hid (Tab.keep HT.out hb); replace HN := hid (News.up HN.out hb); replace HB := hid (Below.step HB.out hb); replace HU := hid (Lies.keep (same_below hb q) _ _ HV.out); replace HV := hid hl; clear hl hb)
              | fail)
          obtain ⟨q3, g1, g2, g3, g4, g5, g6, g7, g8, g9⟩ := phase3 HT.out Hp.out Hs.out HB.out
          have HmM := hid Hm.out
          clear HT HT2 Hp HN Hs HB HV HU Hm Hm2
          have HT2 := hid g1
          have HpM := hid g2
          have HN := hid g3
          have Hp := hid g4
          have Hs := hid g5
          have HT := hid g6
          have HB := hid g7
          have Hm := hid g8
          have Hlt := hid g9
          have HV : Hid (Lies q3 .nil .nilFunc (w9.alloc (.map #[] 0))) := hid rfl
          have HU : Hid (Lies q3 .nil .nilFunc (w9.alloc (.map #[] 0))) := hid rfl
          obtain ⟨m3, h3e⟩ : ∃ m3, m3 = w9.heap.size := ⟨_, rfl⟩
          clear g1 g2 g3 g4 g5 g6 g7 g8 g9
          go_wp2_with (first
              | ((with_reducible change wpList _ _ _ (⟨_, Op.insert _ _ _ _, _, _, _, _⟩ :: _) _ _); refine wpList_insert_tab _ rfl _ _ _ 87 rfl 3 77 key3 Tryz.underlying87 rfl HT (by unfold maxLen; omega) _ (keyOf_int_mk Tryz.underlying3 (by decide)) _ (by first | exact HV | exact HU | exact fnLies q3 _ _) Hp.out ?_; intro w9 ht hg; replace HT2 := hid (Tab.other HT2.out hg.out Hp.out (by have := Hlt.out; omega)); replace HT := ht; replace HN := hid (News.grown HN.out hg.out); replace HB := hid (grown_below HB.out hg.out (Nat.le_refl _) Hm.out); replace HV := hid (Lies.keep (same_grown hg.out Hp.out) _ _ HV.out); replace HU := hid (Lies.keep (same_grown hg.out Hp.out) _ _ HU.out); clear ht hg)
              | (at_mapUpdate; refine wpList_update_tab _ rfl _ _ _ 87 rfl 3 77 key3 Tryz.underlying87 rfl HT (by unfold maxLen; omega) _ (keyOf_int_mk Tryz.underlying3 (by decide)) _ (by first | exact HV | exact HU | exact fnLies q3 _ _) Hp.out ?_; intro w9 ht hg; replace HT2 := hid (Tab.other HT2.out hg.out Hp.out (by have := Hlt.out; omega)); replace HT := ht; replace HN := hid (News.grown HN.out hg.out); replace HB := hid (grown_below HB.out hg.out (Nat.le_refl _) Hm.out); replace HV := hid (Lies.keep (same_grown hg.out Hp.out) _ _ HV.out); replace HU := hid (Lies.keep (same_grown hg.out Hp.out) _ _ HU.out); clear ht hg)
              | ((with_reducible change wpList _ _ _ (⟨_, Op.mapEntry _ _ _, _, _, _, _⟩ :: _) _ _); refine wpList_entry_tab _ rfl _ _ 87 rfl 3 77 key3 Tryz.underlying87 zero77 rfl HT (by unfold maxLen; omega) _ (keyOf_int_mk Tryz.underlying3 (by decide)) Hp.out ?_; intro v0 st w9 ht he hg; replace HT2 := hid (Tab.other HT2.out hg.out Hp.out (by have := Hlt.out; omega)); replace HT := ht; replace HN := hid (News.grown HN.out hg.out); replace HB := hid (grown_below HB.out hg.out (Nat.le_refl _) Hm.out); replace HV := hid (Lies.keep (same_grown hg.out Hp.out) _ _ HV.out); replace HU := hid (Lies.keep (same_grown hg.out Hp.out) _ _ HU.out); clear ht hg)
              | ((with_reducible change wpList _ _ _ (⟨_, Op.entryStore _ _ _ _, _, _, _, _⟩ :: _) _ _); refine wpList_estore_tab _ rfl _ _ _ 87 rfl 3 77 key3 Tryz.underlying87 rfl HT (by unfold maxLen; omega) _ _ _ rfl (keyOf_int_mk Tryz.underlying3 (by decide)) he _ (by first | exact HV | exact HU | exact fnLies q3 _ _) Hp.out ?_; intro w9 ht hg; clear he; replace HT2 := hid (Tab.other HT2.out hg.out Hp.out (by have := Hlt.out; omega)); replace HT := ht; replace HN := hid (News.grown HN.out hg.out); replace HB := hid (grown_below HB.out hg.out (Nat.le_refl _) Hm.out); replace HV := hid (Lies.keep (same_grown hg.out Hp.out) _ _ HV.out); replace HU := hid (Lies.keep (same_grown hg.out Hp.out) _ _ HU.out); clear ht hg)
              | (go_at_call 118; refine (extra_any q3 _ _ _ HN.out).mono ?_; rintro e9 w9 ⟨f9, c9, rfl, hl, hb⟩; replace HT2 := hid (Tab.keep HT2.out hb); replace HT := hid (Tab.keep HT.out hb); replace HN := hid (News.up HN.out hb); replace HB := hid (Below.step HB.out hb); replace HU := hid (Lies.keep (same_below hb q3) _ _ HV.out); replace HV := hid hl; clear hl hb)
              | fail)
          obtain ⟨q4, g1, g2, g3, g4, g5, g6⟩ := laid HT2.out HT.out HpM.out Hs.out HN.out (by have := Hlt.out; omega) Hm.out
          clear HT HT2 Hp HN Hs HV HU Hm HpM Hlt
          have HT := hid g1
          have HT2 := hid g2
          have Hp := hid g3
          have Hm2 := hid g4
          have HN := hid g5
          have Hs := hid g6
          have Hm := HmM
          have HV : Hid (Lies q4 .nil .nilFunc w9) := hid rfl
          have HU : Hid (Lies q4 .nil .nilFunc w9) := hid rfl
          clear g1 g2 g3 g4 g5 g6
          go_wp2_with (first
              | ((with_reducible change wpList _ _ _ (⟨_, Op.insert _ _ _ _, _, _, _, _⟩ :: _) _ _); refine wpList_insert_tab _ rfl _ _ _ 51 rfl 5 77 key5 Tryz.underlying51 rfl HT (by unfold maxLen; omega) _ (keyOf_int_mk Tryz.underlying5 (by decide)) _ (by first | exact HV | exact HU | exact fnLies q4 _ _) Hp.out ?_; intro w9 ht hg; replace HT2 := hid (Tab.grown HT2.out hg.out Hp.out Hm2.out); replace HT := ht; replace HN := hid (News.grown HN.out hg.out); replace HB := hid (grown_below HB.out hg.out (Nat.le_refl _) Hm.out); replace HV := hid (Lies.keep (same_grown hg.out Hp.out) _ _ HV.out); replace HU := hid (Lies.keep (same_grown hg.out Hp.out) _ _ HU.out); clear ht hg)
              | (at_mapUpdate; refine wpList_update_tab _ rfl _ _ _ 51 rfl 5 77 key5 Tryz.underlying51 rfl HT (by unfold maxLen; omega) _ (keyOf_int_mk Tryz.underlying5 (by decide)) _ (by first | exact HV | exact HU | exact fnLies q4 _ _) Hp.out ?_; intro w9 ht hg; replace HT2 := hid (Tab.grown HT2.out hg.out Hp.out Hm2.out); replace HT := ht; replace HN := hid (News.grown HN.out hg.out); replace HB := hid (grown_below HB.out hg.out (Nat.le_refl _) Hm.out); replace HV := hid (Lies.keep (same_grown hg.out Hp.out) _ _ HV.out); replace HU := hid (Lies.keep (same_grown hg.out Hp.out) _ _ HU.out); clear ht hg)
              | ((with_reducible change wpList _ _ _ (⟨_, Op.mapEntry _ _ _, _, _, _, _⟩ :: _) _ _); refine wpList_entry_tab _ rfl _ _ 51 rfl 5 77 key5 Tryz.underlying51 zero77 rfl HT (by unfold maxLen; omega) _ (keyOf_int_mk Tryz.underlying5 (by decide)) Hp.out ?_; intro v0 st w9 ht he hg; replace HT2 := hid (Tab.grown HT2.out hg.out Hp.out Hm2.out); replace HT := ht; replace HN := hid (News.grown HN.out hg.out); replace HB := hid (grown_below HB.out hg.out (Nat.le_refl _) Hm.out); replace HV := hid (Lies.keep (same_grown hg.out Hp.out) _ _ HV.out); replace HU := hid (Lies.keep (same_grown hg.out Hp.out) _ _ HU.out); clear ht hg)
              | ((with_reducible change wpList _ _ _ (⟨_, Op.entryStore _ _ _ _, _, _, _, _⟩ :: _) _ _); refine wpList_estore_tab _ rfl _ _ _ 51 rfl 5 77 key5 Tryz.underlying51 rfl HT (by unfold maxLen; omega) _ _ _ rfl (keyOf_int_mk Tryz.underlying5 (by decide)) he _ (by first | exact HV | exact HU | exact fnLies q4 _ _) Hp.out ?_; intro w9 ht hg; clear he; replace HT2 := hid (Tab.grown HT2.out hg.out Hp.out Hm2.out); replace HT := ht; replace HN := hid (News.grown HN.out hg.out); replace HB := hid (grown_below HB.out hg.out (Nat.le_refl _) Hm.out); replace HV := hid (Lies.keep (same_grown hg.out Hp.out) _ _ HV.out); replace HU := hid (Lies.keep (same_grown hg.out Hp.out) _ _ HU.out); clear ht hg)
              | (go_at_call 97; refine (byHigh_any q4 _ _ _ _ HN.out Hm2.out HT2.out).mono ?_; rintro e9 w9 ⟨f9, c9, rfl, hl, hb⟩; replace HT2 := hid (Tab.keep HT2.out hb); replace HT := hid (Tab.keep HT.out hb); replace HN := hid (News.up HN.out hb); replace HB := hid (Below.step HB.out hb); replace HU := hid (Lies.keep (same_below hb q4) _ _ HV.out); replace HV := hid hl; clear hl hb)
              | fail)
          go_ret
          exact ⟨m, _, q4, rfl, Hm, Hs, Hp, HN, by omega, HT, HB⟩
        · intro x v w1 cn1 hwx hx hl hr hlt hg hen
          obtain ⟨k, rfl, hne⟩ := fastH_int hx.out
          have HNE : Hid (turn2 extE fastH left x ≠ .nil) := hid (by rw [turn2_at hl.out]; exact hne)
          have HLQ := hid HR.out.left_eq
          have HL := hid hl.out
          have HX := hid hx.out
          have HW := hid hwx.out
          have HLT := hid hlt.out
          have HM1 := hid HM.out
          have HLE : Hid (w.heap.size ≤ m2) := hid (by have := HSZ.out; have := Hmm.out; omega)
          replace HT := hid (Tab.other HT.out hg.out Hpr.out (by have := Hmm.out; have := Hmb.out; have := Hbr.out; omega))
          replace HT2 := hid (Tab.other HT2.out hg.out Hpr.out (by have := Hmb.out; have := Hbr.out; omega))
          replace HN := hid (News.grown HN.out hg.out)
          replace HB := hid (grown_below HB.out hg.out (Nat.le_refl _) (by have := HLE.out; have := Hmb.out; have := Hbr.out; omega))
          replace HR := hr
          clear hwx hx hl hr hlt hg hne HM
          go_wp2_with (first
            | (at_lookup; refine wpList_lookup_tab _ rfl _ _ 87 rfl 3 key3 Tryz.underlying87 rfl (hid (Tab.keep HT2.out (below1 _ _))) _ (keyOf_int_mk Tryz.underlying3 HW.out) HNE.out ?_; intro fn cap HV)
            | (at_mapUpdate; refine wpList_update_tab _ rfl _ _ _ 87 rfl 3 77 key3 Tryz.underlying87 rfl (hid (Tab.keep HT2.out (below2 _ _ _))) (by have := HM1.out; unfold maxLen; omega) _ (keyOf_int_mk Tryz.underlying3 HW.out) _ (hid (low_lies HN.out _ _ HV.out)) Hp2.out ?_; intro w8 ht hg; go_frame)
            | fail)
          go_roundw
          case rel =>
            have hb4 := below2 w1 (.cells #[.int .i64 k] 3) (.cells #[.func fn #[] cap] 77)
            have hr4 := ORan.keep (ORan.keep HR.out (below_grown hb4) (by simp) (by simp)) hg.out (fun e => by injection e with e; have := Hmb.out; omega) (fun e => by injection e with e; have := Hmb.out; have := Hbr.out; omega)
            refine ⟨_, cn1, M2 + 1, hid hr4, hid (Tab.other (Tab.keep HT.out hb4) hg.out Hp2.out (by have := Hmm.out; omega)), ?_, hid (by have := HM1.out; have := HLT.out; omega), hid (News.grown (News.up HN.out hb4) hg.out), hid (grown_below (Below.step HB.out hb4) hg.out (Nat.le_refl _) HLE.out)⟩
            rw [← turn2_step HX.out]
            rw [turn2_at HL.out] at ht
            exact ht
          case measure =>
            have hb4 := below2 w1 (.cells #[.int .i64 k] 3) (.cells #[.func fn #[] cap] 77)
            have hr4 := ORan.keep (ORan.keep HR.out (below_grown hb4) (by simp) (by simp)) hg.out (fun e => by injection e with e; have := Hmb.out; omega) (fun e => by injection e with e; have := Hmb.out; have := Hbr.out; omega)
            rw [hr4.left_eq, HLQ.out]
            exact HLT.out
    · intro x v w1 cn1 hwx hx hl hr hlt hg hen
      obtain ⟨k, rfl, hne⟩ := fastK_int hx.out
      have HNE : Hid (turn1 fourE fastK left x ≠ .nil) := hid (by rw [turn1_at hl.out]; exact hne)
      have HLQ := hid HR.out.left_eq
      have HL := hid hl.out
      have HX := hid hx.out
      have HW := hid hwx.out
      have HLT := hid hlt.out
      have HM1 := hid HM.out
      replace HT := hid (Tab.other HT.out hg.out Hpr.out (by have := Hmb.out; have := Hbr.out; omega))
      replace HN := hid (News.grown HN.out hg.out)
      replace HB := hid (grown_below HB.out hg.out (Nat.le_refl _) (by have := Hm.out; have := Hmb.out; have := Hbr.out; omega))
      replace HR := hr
      clear hwx hx hl hr hlt hg hne HM
      go_wp2_with (first
        | (at_lookup; refine wpList_lookup_tab _ rfl _ _ 51 rfl 5 key5 Tryz.underlying51 rfl HT _ (keyOf_int_mk Tryz.underlying5 HW.out) HNE.out ?_; intro fn cap HV)
        | (go_at_call 87; refine (wholly_any p' _ _ _ _ _ HN.out HV.out).mono ?_; rintro e8 w8 ⟨f8, c8, rfl, hl, hb⟩; replace HT := hid (Tab.keep HT.out hb); replace HN := hid (News.up HN.out hb); replace HB := hid (Below.step HB.out hb); replace HR := hid (ORan.keep HR.out (below_grown hb) (by simp) (by simp)); replace HV := hid hl; clear hl hb)
        | (at_mapUpdate; refine wpList_update_tab _ rfl _ _ _ 51 rfl 5 77 key5 Tryz.underlying51 rfl HT (by have := HM1.out; unfold maxLen; omega) _ (keyOf_int_mk Tryz.underlying5 HW.out) _ HV Hp.out ?_; intro w8 ht hg; go_frame)
        | fail)
      go_roundw
      case rel =>

        refine ⟨_, cn1, M + 1, hid (ORan.keep HR.out hg.out (fun e => by injection e with e; have := Hmb.out; omega) (fun e => by injection e with e; have := Hmb.out; have := Hbr.out; omega)), ?_, hid (by have := HM1.out; have := HLT.out; omega), hid (News.grown HN.out hg.out), hid (grown_below HB.out hg.out (Nat.le_refl _) Hm.out)⟩
        rw [← turn1_step HX.out]
        rw [turn1_at HL.out] at ht
        exact ht
      case measure =>
        have h1 := (ORan.keep HR.out hg.out (fun e => by injection e with e; have := Hmb.out; omega) (fun e => by injection e with e; have := Hmb.out; have := Hbr.out; omega)).left_eq
        rw [h1, HLQ.out]
        exact HLT.out
end Go.Proofs.YtkpielgdfahanaaGreat
