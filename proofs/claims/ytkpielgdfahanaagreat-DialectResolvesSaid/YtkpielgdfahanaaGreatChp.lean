/- dialect.chip: the effects of chip. -/
import Derived.Test.YtkpielgdfahanaaGreatImp
import Derived.Laws.RangeString
namespace Go.Proofs.YtkpielgdfahanaaGreat
open Go.RowKit Go.Maps
section
variable {P : Program} (w : World) {ops : Array Oper} {rest : List Oper} {o : Oper} {a : Act} {Q : Exit → Act → World → Prop}
/-- Block r walks over the string s and stands at pos. -/
def Strs (r : Nat) (s : ByteArray) (pos : Nat) (w : World) : Prop := w.heap[r]? = some (.stringIter s pos)
theorem run_next_s (ty : TypeId) {s : ByteArray} {pos r c : Nat} (hi : Strs r s pos w) (h : pos < s.size) (hc : (s[pos]'h).toNat = c) (ha : c < 128) :
    ∃ w', (Instr.next (.pointer (some ⟨r, 0, none⟩)) true ty).run P w = .ok (.tuple #[.bool true, .int .i64 pos, .int .i32 c]) w' ∧ Strs r s (pos + 1) w' ∧ w.grownBy w' (some r) := by
  subst hc
  unfold Strs at hi
  have hr : r < w.heap.size := (Array.getElem?_eq_some_iff.1 hi).1
  refine ⟨{ w with heap := w.heap.setIfInBounds r (.stringIter s (pos + 1)) }, ?_, ?_, ?_⟩
  · simp [Instr.next, getObj, setObj, Sem.run, hi, Result.andThen, h, decode_ascii s pos h ha, goInt]
  · show (w.heap.setIfInBounds r (.stringIter s (pos + 1)))[r]? = _
    simp [hr]
  · refine ⟨rfl, rfl, rfl, by simp, fun i hl hne => ?_⟩
    show (w.heap.setIfInBounds r (.stringIter s (pos + 1)))[i]? = _
    rw [Array.getElem?_setIfInBounds, if_neg (fun e => hne (by rw [e]))]
theorem run_next_e (ty : TypeId) {s : ByteArray} {pos r : Nat} (hi : Strs r s pos w) (h : ¬ pos < s.size) :
    (Instr.next (.pointer (some ⟨r, 0, none⟩)) true ty).run P w = .ok (.tuple #[.bool false]) w := by
  unfold Strs at hi
  simp [Instr.next, getObj, Sem.run, hi, h]
theorem wpList_next_s (hg : o.guard = none) (it : Operand) (hop : o.op = Op.next it true) (s : ByteArray) (pos r c : Nat) (hit : a.eval it = .pointer (some ⟨r, 0, none⟩)) (hi : Hid (Strs r s pos w)) (h : pos < s.size) (hc : (s[pos]'h).toNat = c) (ha : c < 128)
    (hK : ∀ w', Hid (Strs r s (pos + 1) w') → Hid (w.grownBy w' (some r)) → wpList P ops Q rest (a.put o.dst (.tuple #[.bool true, .int .i64 pos, .int .i32 c])) w') : wpList P ops Q (o :: rest) a w := by
  refine wpList_plain hg fun K' hK' => ?_
  obtain ⟨w', hrun, h1, h2⟩ := run_next_s (P := P) w o.type hi.out h hc ha
  unfold Oper.wp
  simp [execOp, hop, hit, hrun, Result.andThen]
  exact hK' _ _ (hK w' h1 h2)
theorem wpList_next_e (hg : o.guard = none) (it : Operand) (hop : o.op = Op.next it true) (s : ByteArray) (pos r : Nat) (hit : a.eval it = .pointer (some ⟨r, 0, none⟩)) (hi : Hid (Strs r s pos w)) (h : ¬ pos < s.size)
    (hK : wpList P ops Q rest (a.put o.dst (.tuple #[.bool false])) w) : wpList P ops Q (o :: rest) a w := by
  refine wpList_plain hg fun K' hK' => ?_
  have hrun := run_next_e (P := P) w o.type hi.out h
  unfold Oper.wp
  simp [execOp, hop, hit, hrun, Result.andThen]
  exact hK' _ _ hK
end
theorem Strs.kept {r : Nat} {s : ByteArray} {pos : Nat} {w w' : World} (h : Strs r s pos w) {b : Option Nat} (hg : w.grownBy w' b) (hb : b ≠ some r) : Strs r s pos w' :=
  (hg.block r (Array.getElem?_eq_some_iff.1 h).1 (fun e => hb e.symm)).trans h
theorem Strs.lt {r : Nat} {s : ByteArray} {pos : Nat} {w : World} (h : Strs r s pos w) : r < w.heap.size := (Array.getElem?_eq_some_iff.1 h).1
theorem wpList_delete_tab {p : Nat → Prop} {q : IntKind} (w : World) {ops : Array Oper} {rest : List Oper} {o : Oper} {a : Act} {Q : Exit → Act → World → Prop} {b n : Nat} {G : Int → Eff} (hg : o.guard = none) (m x : Operand) (t k : TypeId)
    (hop : o.op = Op.call { callee := Callee.builtin Builtin.delete, args := #[m, x], argTypes := #[t, k] }) (K : Keyed Tryz.prog k) (ht : Tryz.prog.underlying t = some (.map k 77)) (hm : a.eval m = .map (some b)) (h : Hid (Tab p k q b n G w)) (kl : Int) (hkey : keyOf Tryz.prog k (a.eval x) = some (.int q kl)) (hnp : ¬ p b)
    (hK : ∀ w', Hid (Tab p k q b n (upd G kl .nil) w') → Hid (w.grownBy w' (some b)) → wpList Tryz.prog ops Q rest (a.put o.dst (.tuple #[])) w') : wpList Tryz.prog ops Q (o :: rest) a w := by
  obtain ⟨g, h1, h2⟩ := h
  exact wpList_delete_fn w hg m x t k hop 77 K ht _ b n g hm h1 _ kl rfl hkey fun w' r1 r2 => hK w' ⟨_, r1, Tab.put h2 rfl r2 hnp⟩ r2
def chipL : List Nat := [53, 54, 55, 56, 57, 71, 72, 75, 76, 80, 82, 84, 88]
def chipS : ByteArray := ⟨#[53, 54, 55, 56, 57, 71, 72, 75, 76, 80, 82, 84, 88]⟩
/-- The effects of fast without the first k of chip's struck ones. -/
def chipD (k : Nat) (x : Int) : Eff := if (chipL.take k).any (fun c => decide ((c : Int) = x)) then .nil else fastE x
theorem chipD_0 : chipD 0 = fastE := by funext x; rfl
theorem chipL_at {k : Nat} (h : k < 13) : ∃ c, chipL[k]? = some c ∧ c < 128 ∧ (chipS[k]'h).toNat = c := by
  have all : ∀ j : Fin 13, chipL[j.val]? = some (chipS[j.val]'j.isLt).toNat ∧ (chipS[j.val]'j.isLt).toNat < 128 := by decide
  obtain ⟨h1, h2⟩ := all ⟨k, h⟩
  exact ⟨_, h1, h2, rfl⟩
theorem chipD_step {k c : Nat} (h : chipL[k]? = some c) : upd (chipD k) (c : Int) .nil = chipD (k + 1) := by
  funext x
  unfold upd chipD
  rw [List.take_add_one, h, List.any_append]
  generalize List.any (chipL.take k) _ = z
  by_cases e : x = (c : Int)
  · subst e; simp
  · have e2 : ¬ ((c : Int) = x) := fun e' => e e'.symm
    simp [e, e2]
theorem phaseS (cs : ByteArray) {w w9 : World} {p : Nat → Prop} {m N : Nat} {G : Int → Eff} (HT : Tab p 5 .u8 m N G w9) (Hp : ¬ p m) (Hs : ∀ c, p c → w.heap.size ≤ c) (HN : News p w9) (HB : Below w.heap.size w w9) :
    ∃ q : Nat → Prop, Tab q 5 .u8 m N G (w9.iter cs 0) ∧ ¬ q m ∧ News q (w9.iter cs 0) ∧ ¬ q w9.heap.size ∧ (∀ c, q c → w.heap.size ≤ c) ∧ Below w.heap.size w (w9.iter cs 0) ∧ Strs w9.heap.size cs 0 (w9.iter cs 0) := by
  have hsz := HB.size
  refine ⟨fun c => p c ∧ c ≠ w9.heap.size, Tab.keep (Tab.wider (fun c hc => ⟨hc.1, by have := hc.2; omega⟩) (Tab.within HT)) (below1 w9 _), fun h => Hp h.1, fun c hc => ?_, fun h => h.2 rfl, fun c hc => Hs c hc.1, Below.step HB (below1 w9 _), World.iter_heap _ _ _⟩
  have hz : (w9.iter cs 0).heap.size = w9.heap.size + 1 := Array.size_push _
  have hc : (w9.iter cs 0).heap.size ≤ c := hc
  exact ⟨HN c (by omega), by omega⟩
def chipE : Int → Eff := upd (upd (upd (upd (upd (chipD 13) 68 (.param 33)) 69 (.byHigh (timedE 6))) 70 (.unless0 (.param 36))) 78 (.fn 127)) 83 (.fn 128)

set_option maxHeartbeats 4000000 in
set_option maxRecDepth 100000 in
theorem chip_any (w : World) : Calls Tryz.prog 83 #[] w (BuiltN 3000 5 .u8 chipE w) := by
  go_enter Tryz.func83, Tryz.ntmps83
  go_wp2_with fail
  go_at_call 80
  refine (fast_any _).mono ?_
  rintro e w9 ⟨m, N, p, rfl, hm, hs, hp, hn, hN, ht, hb⟩
  have HM := hid hm
  have HNN := hid hN
  have HPH := hid (phaseS chipS ht hp hs hn hb)
  have HML := hid ht.lt
  clear hm hs hp hn hN ht hb
  go_wp2_with fail
  go_loopw [3] (fun _ wr => ∃ (q : Nat → Prop) (k : Nat), k ≤ 13 ∧ Hid (Tab q 5 .u8 m N (chipD k) wr) ∧ Hid (¬ q m) ∧ Hid (News q wr) ∧ Hid (¬ q w9.heap.size) ∧ Hid (∀ c, q c → w.heap.size ≤ c) ∧ Hid (Below w.heap.size w wr) ∧ Hid (Strs w9.heap.size chipS k wr)) (fun _ wr => 13 - wr.iterPos w9.heap.size)
  case atStart =>
    obtain ⟨q, f1, f2, f3, f4, f5, f6, f7⟩ := HPH
    exact ⟨q, 0, by omega, hid (by rw [chipD_0]; exact f1), f2, f3, f4, f5, f6, f7⟩
  case round =>
    clear HPH
    obtain ⟨p, k, hk, HT, Hp, HN, Hpr, Hs, HB, HI⟩ := hrel
    by_cases hlt : k < 13
    · obtain ⟨c, hc, hc2, hc3⟩ := chipL_at hlt
      have HC := hid hc
      have HC3 := hid hc3
      have hc0 : (0 : Int) ≤ (c : Int) := by omega
      have hc1 : (c : Int) < 128 := by omega
      have HW : Hid ((Lit.int .u8 (c : Int)).wf = true) := hid (WalkArith.wf_u8 (by omega))
      have HP : Hid (wr.iterPos w9.heap.size = k) := hid (by unfold World.iterPos; rw [HI.out])
      clear hc hc3
      go_wp2_with (first
        | (at_next; refine wpList_next_s _ rfl _ rfl chipS k w9.heap.size c rfl HI hlt HC3.out hc2 ?_; intro w1 hi hg; replace HT := hid (Tab.other HT.out hg.out Hpr.out (by have := HML.out; omega)); replace HN := hid (News.grown HN.out hg.out); replace HB := hid (grown_below HB.out hg.out (Nat.le_refl _) (by have := HML.out; have := HM.out; omega)); replace HI := hi; clear hg hi)
        | (at_delete; refine wpList_delete_tab _ rfl _ _ 51 5 rfl key5 Tryz.underlying51 rfl HT (c : Int) (keyOf_int_mk Tryz.underlying5 HW.out) Hp.out ?_; intro w8 ht hg; go_frame)
        | fail)
      go_roundw
      case rel => exact ⟨p, k + 1, by omega, hid (by rw [← chipD_step HC.out]; exact ht.out), Hp, hid (News.grown HN.out hg.out), Hpr, Hs, hid (grown_below HB.out hg.out (Nat.le_refl _) HM.out), hid (HI.out.kept hg.out (fun e => by injection e with e; have := HML.out; omega))⟩
      case measure =>
        have h1 : w8.iterPos w9.heap.size = k + 1 := by
          have h2 := HI.out.kept hg.out (fun e => by injection e with e; have := HML.out; omega)
          unfold World.iterPos
          rw [h2]
        rw [h1, HP.out]
        omega
    · have hk13 : k = 13 := by omega
      subst hk13
      clear hlt hk
      have HV : Hid (Lies p .nil .nilFunc wr) := hid rfl
      have HU : Hid (Lies p .nil .nilFunc wr) := hid rfl
      have hMM : N ≤ 2000 := HNN.out
      have Hm := HM
      go_wp2_with (first
        | (at_next; refine wpList_next_e _ rfl _ rfl chipS 13 w9.heap.size rfl HI (by decide) ?_)
        | fail)
      clear HI Hpr
      go_wp2_with (first
    | ((with_reducible change wpList _ _ _ (⟨_, Op.insert _ _ _ _, _, _, _, _⟩ :: _) _ _); refine wpList_insert_tab _ rfl _ _ _ 51 rfl 5 77 key5 Tryz.underlying51 rfl HT (by unfold maxLen; omega) _ (keyOf_int_mk Tryz.underlying5 (by decide)) _ (by first | exact HV | exact HU | exact fnLies p _ _) Hp.out ?_; intro w9 ht hg; replace HT := ht; replace HN := hid (News.grown HN.out hg.out); replace HB := hid (grown_below HB.out hg.out (Nat.le_refl _) Hm.out); replace HV := hid (Lies.keep (same_grown hg.out Hp.out) _ _ HV.out); replace HU := hid (Lies.keep (same_grown hg.out Hp.out) _ _ HU.out); clear ht hg)
    | (at_mapUpdate; refine wpList_update_tab _ rfl _ _ _ 51 rfl 5 77 key5 Tryz.underlying51 rfl HT (by unfold maxLen; omega) _ (keyOf_int_mk Tryz.underlying5 (by decide)) _ (by first | exact HV | exact HU | exact fnLies p _ _) Hp.out ?_; intro w9 ht hg; replace HT := ht; replace HN := hid (News.grown HN.out hg.out); replace HB := hid (grown_below HB.out hg.out (Nat.le_refl _) Hm.out); replace HV := hid (Lies.keep (same_grown hg.out Hp.out) _ _ HV.out); replace HU := hid (Lies.keep (same_grown hg.out Hp.out) _ _ HU.out); clear ht hg)
    | ((with_reducible change wpList _ _ _ (⟨_, Op.mapEntry _ _ _, _, _, _, _⟩ :: _) _ _); refine wpList_entry_tab _ rfl _ _ 51 rfl 5 77 key5 Tryz.underlying51 zero77 rfl HT (by unfold maxLen; omega) _ (keyOf_int_mk Tryz.underlying5 (by decide)) Hp.out ?_; intro v0 st w9 ht he hg; replace HT := ht; replace HN := hid (News.grown HN.out hg.out); replace HB := hid (grown_below HB.out hg.out (Nat.le_refl _) Hm.out); replace HV := hid (Lies.keep (same_grown hg.out Hp.out) _ _ HV.out); replace HU := hid (Lies.keep (same_grown hg.out Hp.out) _ _ HU.out); clear ht hg)
    | ((with_reducible change wpList _ _ _ (⟨_, Op.entryStore _ _ _ _, _, _, _, _⟩ :: _) _ _); refine wpList_estore_tab _ rfl _ _ _ 51 rfl 5 77 key5 Tryz.underlying51 rfl HT (by unfold maxLen; omega) _ _ _ rfl (keyOf_int_mk Tryz.underlying5 (by decide)) he _ (by first | exact HV | exact HU | exact fnLies p _ _) Hp.out ?_; intro w9 ht hg; clear he; replace HT := ht; replace HN := hid (News.grown HN.out hg.out); replace HB := hid (grown_below HB.out hg.out (Nat.le_refl _) Hm.out); replace HV := hid (Lies.keep (same_grown hg.out Hp.out) _ _ HV.out); replace HU := hid (Lies.keep (same_grown hg.out Hp.out) _ _ HU.out); clear ht hg)
    | (go_at_call 86; refine (param_any p _ _ HN.out).mono ?_; rintro e9 w9 ⟨f9, c9, rfl, hl, hb⟩; replace HT := hid (Tab.keep HT.out hb); replace HN := hid (News.up HN.out hb); replace HB := hid (Below.step HB.out hb); replace HU := hid (Lies.keep (same_below hb p) _ _ HV.out); replace HV := hid hl; clear hl hb)
    | (go_at_call 84; refine (unless0_any p _ _ _ _ HN.out (by first | exact HV | exact fnLies p _ _)).mono ?_; rintro e9 w9 ⟨f9, c9, rfl, hl, hb⟩; replace HT := hid (Tab.keep HT.out hb); replace HN := hid (News.up HN.out hb); replace HB := hid (Below.step HB.out hb); replace HU := hid (Lies.keep (same_below hb p) _ _ HV.out); replace HV := hid hl; clear hl hb)
    | (go_at_call 97; refine (byHigh_any p _ _ _ _ HN.out Hm2.out HT2.out).mono ?_; rintro e9 w9 ⟨f9, c9, rfl, hl, hb⟩; replace HT := hid (Tab.keep HT.out hb); replace HN := hid (News.up HN.out hb); replace HB := hid (Below.step HB.out hb); replace HU := hid (Lies.keep (same_below hb p) _ _ HV.out); replace HV := hid hl; clear hl hb)
    | (go_at_call 100; refine (timed_any 6 _ (Or.inl rfl)).mono ?_; rintro e9 w9 ⟨m2, N2, p2, rfl, hm2, hs2, _, _, hN2, ht2, hb⟩; have HT2 := hid (Tab.wider (fun c hc => HN.out c (hs2 c hc)) ht2); have Hm2 : Hid (p m2) := hid (HN.out m2 hm2); clear hm2 hs2 hN2 ht2; replace HT := hid (Tab.keep HT.out hb); replace HN := hid (News.up HN.out hb); replace HB := hid (Below.step HB.out hb); replace HU := hid (Lies.keep (same_below hb p) _ _ HU.out); replace HV := hid (Lies.keep (same_below hb p) _ _ HV.out); clear hb)
    | fail)
      go_ret
      exact ⟨m, _, p, rfl, Hm, Hs, Hp, HN, by omega, HT, HB⟩
end Go.Proofs.YtkpielgdfahanaaGreat
