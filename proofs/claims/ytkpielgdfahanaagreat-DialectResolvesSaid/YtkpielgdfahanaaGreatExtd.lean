/- dialect.extended: the effects E of four. -/
import Derived.Test.YtkpielgdfahanaaGreatTimed
namespace Go.Proofs.YtkpielgdfahanaaGreat
open Go.RowKit Go.Maps

theorem fnLies (p : Nat → Prop) (f : Nat) (w : World) : Hid (Lies p (.fn f) (.func (.func f) #[] #[]) w) := hid rfl
theorem News.up {p : Nat → Prop} {w w' : World} {B : Nat} (h : News p w) (hb : Below B w w') : News p w' := fun c hc => h c (Nat.le_trans hb.size hc)
theorem News.grown {p : Nat → Prop} {w w' : World} {b : Option Nat} (h : News p w) (hb : w.grownBy w' b) : News p w' := fun c hc => h c (Nat.le_trans hb.size hc)
theorem same_grown {p : Nat → Prop} {w w' : World} {m : Nat} (hg : w.grownBy w' (some m)) (hp : ¬ p m) : Same p w w' := fun c hc hl => hg.block c hl (fun e => by injection e with e; exact hp (e ▸ hc))
theorem zero77 (u : World) : (zeroValue 77).run Tryz.prog u = .ok .nilFunc u := by rfl
/-- What a builder hands back: a new map of effects. -/
def BuiltN (B : Nat) (k : TypeId) (q : IntKind) (G : Int → Eff) (w : World) (x : Ending) (w' : World) : Prop :=
  ∃ m N p, x = .returned (.map (some m)) ∧ w.heap.size ≤ m ∧ (∀ c, p c → w.heap.size ≤ c) ∧ ¬ p m ∧ News p w' ∧ N ≤ B ∧ Tab p k q m N G w' ∧ Below w.heap.size w w'
abbrev Built := BuiltN 1000

def extE : Int → Eff := upd (upd (upd (upd (upd (upd (upd (upd (upd (upd (timedE 6) 1 (.lowHalf 4)) 2 (.lowHalf 5)) 3 (.fn 101)) 4 (.wave 25)) 7 (.wave 26)) 5 (.fn 135)) 8 (.fn 104)) 9 (.lowHalf 19)) 10 (.lowHalf 13)) 11 (.lowHalf 14)
set_option maxHeartbeats 2000000 in
set_option maxRecDepth 100000 in
theorem extended_any (w : World) : Calls Tryz.prog 98 #[] w (Built 3 .i64 extE w) := by
  go_enter Tryz.func98, Tryz.ntmps98
  go_wp2_with fail
  go_at_call 100
  refine (timed_any 6 _ (Or.inl rfl)).mono ?_
  rintro e w9 ⟨m, N, p, rfl, hm, hs, hp, hn, hN, ht, hb⟩
  have HT := hid ht
  have HN := hid hn
  have HB := hid hb
  have Hm := hid hm
  have Hp := hid hp
  have Hs := hid hs
  have HV : Hid (Lies p .nil .nilFunc w9) := hid rfl
  have HU : Hid (Lies p .nil .nilFunc w9) := hid rfl
  clear ht hn hb hm hp hs
  go_wp2_with (first
    | ((with_reducible change wpList _ _ _ (⟨_, Op.insert _ _ _ _, _, _, _, _⟩ :: _) _ _); refine wpList_insert_tab _ rfl _ _ _ 87 rfl 3 77 key3 Tryz.underlying87 rfl HT (by unfold maxLen; omega) _ (keyOf_int_mk Tryz.underlying3 (by decide)) _ (by first | exact HV | exact HU | exact fnLies p _ _) Hp.out ?_; intro w9 ht hg; replace HT := ht; replace HN := hid (News.grown HN.out hg.out); replace HB := hid (grown_below HB.out hg.out (Nat.le_refl _) Hm.out); replace HV := hid (Lies.keep (same_grown hg.out Hp.out) _ _ HV.out); replace HU := hid (Lies.keep (same_grown hg.out Hp.out) _ _ HU.out); clear ht hg)
    | (at_mapUpdate; refine wpList_update_tab _ rfl _ _ _ 87 rfl 3 77 key3 Tryz.underlying87 rfl HT (by unfold maxLen; omega) _ (keyOf_int_mk Tryz.underlying3 (by decide)) _ (by first | exact HV | exact HU | exact fnLies p _ _) Hp.out ?_; intro w9 ht hg; replace HT := ht; replace HN := hid (News.grown HN.out hg.out); replace HB := hid (grown_below HB.out hg.out (Nat.le_refl _) Hm.out); replace HV := hid (Lies.keep (same_grown hg.out Hp.out) _ _ HV.out); replace HU := hid (Lies.keep (same_grown hg.out Hp.out) _ _ HU.out); clear ht hg)
    | ((with_reducible change wpList _ _ _ (⟨_, Op.mapEntry _ _ _, _, _, _, _⟩ :: _) _ _); refine wpList_entry_tab _ rfl _ _ 87 rfl 3 77 key3 Tryz.underlying87 zero77 rfl HT (by unfold maxLen; omega) _ (keyOf_int_mk Tryz.underlying3 (by decide)) Hp.out ?_; intro v0 st w9 ht he hg; replace HT := ht; replace HN := hid (News.grown HN.out hg.out); replace HB := hid (grown_below HB.out hg.out (Nat.le_refl _) Hm.out); replace HV := hid (Lies.keep (same_grown hg.out Hp.out) _ _ HV.out); replace HU := hid (Lies.keep (same_grown hg.out Hp.out) _ _ HU.out); clear ht hg)
    | ((with_reducible change wpList _ _ _ (⟨_, Op.entryStore _ _ _ _, _, _, _, _⟩ :: _) _ _); refine wpList_estore_tab _ rfl _ _ _ 87 rfl 3 77 key3 Tryz.underlying87 rfl HT (by unfold maxLen; omega) _ _ _ rfl (keyOf_int_mk Tryz.underlying3 (by decide)) he _ (by first | exact HV | exact HU | exact fnLies p _ _) Hp.out ?_; intro w9 ht hg; clear he; replace HT := ht; replace HN := hid (News.grown HN.out hg.out); replace HB := hid (grown_below HB.out hg.out (Nat.le_refl _) Hm.out); replace HV := hid (Lies.keep (same_grown hg.out Hp.out) _ _ HV.out); replace HU := hid (Lies.keep (same_grown hg.out Hp.out) _ _ HU.out); clear ht hg)
    | (go_at_call 126; refine (lowHalf_any p _ _ HN.out).mono ?_; rintro e9 w9 ⟨f9, c9, rfl, hl, hb⟩; replace HT := hid (Tab.keep HT.out hb); replace HN := hid (News.up HN.out hb); replace HB := hid (Below.step HB.out hb); replace HU := hid (Lies.keep (same_below hb p) _ _ HV.out); replace HV := hid hl; clear hl hb)
    | (go_at_call 103; refine (wave_any p _ _ HN.out).mono ?_; rintro e9 w9 ⟨f9, c9, rfl, hl, hb⟩; replace HT := hid (Tab.keep HT.out hb); replace HN := hid (News.up HN.out hb); replace HB := hid (Below.step HB.out hb); replace HU := hid (Lies.keep (same_below hb p) _ _ HV.out); replace HV := hid hl; clear hl hb)
    | go_in)
  go_ret
  exact ⟨m, _, p, rfl, Hm, Hs, Hp, HN, by omega, HT, HB⟩
end Go.Proofs.YtkpielgdfahanaaGreat
