/- dialect.scream, special: the effects of scream, and the effects S of impulse. -/
import Derived.Test.YtkpielgdfahanaaGreatFour
namespace Go.Proofs.YtkpielgdfahanaaGreat
open Go.RowKit Go.Maps
theorem Tab.within {p : Nat → Prop} {k : TypeId} {q : IntKind} {b n : Nat} {G : Int → Eff} {w : World} (h : Tab p k q b n G w) : Tab (fun c => p c ∧ c < w.heap.size) k q b n G w := by
  obtain ⟨g, h1, h2⟩ := h; exact ⟨g, h1, fun x => Lies.within _ _ (h2 x)⟩
theorem phase {w w9 : World} {p : Nat → Prop} {m N : Nat} {G : Int → Eff} (HT : Tab p 3 .i64 m N G w9) (Hm : w.heap.size ≤ m) (Hs : ∀ c, p c → w.heap.size ≤ c) (HB : Below w.heap.size w w9) :
    ∃ q : Nat → Prop, Tab q 3 .i64 m N G (w9.alloc (.map #[] 0)) ∧ q m ∧ News q (w9.alloc (.map #[] 0)) ∧ ¬ q w9.heap.size ∧ (∀ c, q c → w.heap.size ≤ c) ∧
      Tab q 5 .u8 w9.heap.size 0 (fun _ => .nil) (w9.alloc (.map #[] 0)) ∧ Below w.heap.size w (w9.alloc (.map #[] 0)) ∧ w.heap.size ≤ w9.heap.size := by
  have hlt := HT.lt
  refine ⟨fun c => w.heap.size ≤ c ∧ c ≠ w9.heap.size, Tab.keep (Tab.wider (fun c hc => ⟨Hs c hc.1, by have := hc.2; omega⟩) (Tab.within HT)) (below1 w9 _), ⟨Hm, by omega⟩, fun c hc => ?_, fun h => h.2 rfl, fun c hc => hc.1, Tab.made _ _ _ _, Below.step HB (below1 w9 _), HB.size⟩
  have := HB.size
  simp at hc
  exact ⟨by omega, by omega⟩

def screamS : Int → Eff := upd (upd (upd (upd (upd (timedE 11) 1 (.fn 101)) 2 (.fn 102)) 3 (.wave 25)) 4 (.wave 26)) 8 (.fn 104)
def screamE : Int → Eff := upd (upd (upd (upd (upd (upd (upd (upd (upd (upd (upd (upd (upd (upd (upd (upd (upd (upd (upd (upd (fun _ => .nil) 65 (.unless0 (.param 36))) 66 (.param 32)) 67 (.fn 96)) 68 (.wholly 1 (.fn 105))) 69 (.wholly 1 (.fn 106))) 70 (.wholly 1 (.fn 107))) 71 (.wholly 2 (.param 8))) 72 (.halved 3 (.both 9))) 73 (.wholly 1 (.fn 108))) 74 (.wholly 1 (.both 1))) 75 (.wholly 1 (.fn 109))) 76 (.wholly 1 (.fn 110))) 79 (.wholly 4 (.fn 111))) 81 (.wholly 1 (.fn 112))) 82 (.wholly 1 (.both 11))) 83 (.wholly 1 (.byHigh screamS))) 84 (.fn 113)) 85 (.halved 3 (.both 10))) 86 (.doubled 28 64)) 88 (.doubled 16 128)
set_option maxHeartbeats 4000000 in
set_option maxRecDepth 100000 in
theorem scream_any (w : World) : Calls Tryz.prog 79 #[] w (Built 5 .u8 screamE w) := by
  have hmm := @run_makeMap Tryz.prog
  go_enter Tryz.func79, Tryz.ntmps79
  go_wp2_with fail
  go_at_call 100
  refine (timed_any 11 _ (Or.inr rfl)).mono ?_
  rintro e w9 ⟨m, N, p, rfl, hm, hs, hp, hn, hN, ht, hb⟩
  have HT := hid ht
  have HN := hid hn
  have HB := hid hb
  have Hm := hid hm
  have Hp := hid hp
  have Hs := hid hs
  have HV : Hid (Lies p .nil .nilFunc w9) := hid rfl
  have HU : Hid (Lies p .nil .nilFunc w9) := hid rfl
  clear ht hn hb hm hp hs
  go_wp2_with (first
    | ((with_reducible change wpList _ _ _ (⟨_, Op.insert _ _ _ _, _, _, _, _⟩ :: _) _ _); refine wpList_insert_tab _ rfl _ _ _ 87 rfl 3 77 key3 Tryz.underlying87 rfl HT (by unfold maxLen; omega) _ (keyOf_int_mk Tryz.underlying3 (by decide)) _ (by first | exact HV | exact HU | exact fnLies p _ _) Hp.out ?_; intro w9 ht hg; replace HT := ht; replace HN := hid (News.grown HN.out hg.out); replace HB := hid (grown_below HB.out hg.out (Nat.le_refl _) Hm.out); replace HV := hid (Lies.keep (same_grown hg.out Hp.out) _ _ HV.out); replace HU := hid (Lies.keep (same_grown hg.out Hp.out) _ _ HU.out); clear ht hg)
    | (at_mapUpdate; refine wpList_update_tab _ rfl _ _ _ 87 rfl 3 77 key3 Tryz.underlying87 rfl HT (by unfold maxLen; omega) _ (keyOf_int_mk Tryz.underlying3 (by decide)) _ (by first | exact HV | exact HU | exact fnLies p _ _) Hp.out ?_; intro w9 ht hg; replace HT := ht; replace HN := hid (News.grown HN.out hg.out); replace HB := hid (grown_below HB.out hg.out (Nat.le_refl _) Hm.out); replace HV := hid (Lies.keep (same_grown hg.out Hp.out) _ _ HV.out); replace HU := hid (Lies.keep (same_grown hg.out Hp.out) _ _ HU.out); clear ht hg)
    | ((with_reducible change wpList _ _ _ (⟨_, Op.mapEntry _ _ _, _, _, _, _⟩ :: _) _ _); refine wpList_entry_tab _ rfl _ _ 87 rfl 3 77 key3 Tryz.underlying87 zero77 rfl HT (by unfold maxLen; omega) _ (keyOf_int_mk Tryz.underlying3 (by decide)) Hp.out ?_; intro v0 st w9 ht he hg; replace HT := ht; replace HN := hid (News.grown HN.out hg.out); replace HB := hid (grown_below HB.out hg.out (Nat.le_refl _) Hm.out); replace HV := hid (Lies.keep (same_grown hg.out Hp.out) _ _ HV.out); replace HU := hid (Lies.keep (same_grown hg.out Hp.out) _ _ HU.out); clear ht hg)
    | ((with_reducible change wpList _ _ _ (⟨_, Op.entryStore _ _ _ _, _, _, _, _⟩ :: _) _ _); refine wpList_estore_tab _ rfl _ _ _ 87 rfl 3 77 key3 Tryz.underlying87 rfl HT (by unfold maxLen; omega) _ _ _ rfl (keyOf_int_mk Tryz.underlying3 (by decide)) he _ (by first | exact HV | exact HU | exact fnLies p _ _) Hp.out ?_; intro w9 ht hg; clear he; replace HT := ht; replace HN := hid (News.grown HN.out hg.out); replace HB := hid (grown_below HB.out hg.out (Nat.le_refl _) Hm.out); replace HV := hid (Lies.keep (same_grown hg.out Hp.out) _ _ HV.out); replace HU := hid (Lies.keep (same_grown hg.out Hp.out) _ _ HU.out); clear ht hg)
    | (go_at_call 103; refine (wave_any p _ _ HN.out).mono ?_; rintro e9 w9 ⟨f9, c9, rfl, hl, hb⟩; replace HT := hid (Tab.keep HT.out hb); replace HN := hid (News.up HN.out hb); replace HB := hid (Below.step HB.out hb); replace HU := hid (Lies.keep (same_below hb p) _ _ HV.out); replace HV := hid hl; clear hl hb)
    | fail)
  obtain ⟨q, f1, f2, f3, f4, f5, f6, f7, f8⟩ := phase HT.out Hm.out Hs.out HB.out
  clear HT HN Hm Hp Hs HV HU HB
  have HT2 := hid f1
  have Hm2 := hid f2
  have HN := hid f3
  have Hp := hid f4
  have Hs := hid f5
  have HT := hid f6
  have HB := hid f7
  have Hm := hid f8
  have HV : Hid (Lies q .nil .nilFunc (w9.alloc (.map #[] 0))) := hid rfl
  have HU : Hid (Lies q .nil .nilFunc (w9.alloc (.map #[] 0))) := hid rfl
  clear f1 f2 f3 f4 f5 f6 f7 f8
  go_wp2_with (first
    | ((with_reducible change wpList _ _ _ (⟨_, Op.insert _ _ _ _, _, _, _, _⟩ :: _) _ _); refine wpList_insert_tab _ rfl _ _ _ 51 rfl 5 77 key5 Tryz.underlying51 rfl HT (by unfold maxLen; omega) _ (keyOf_int_mk Tryz.underlying5 (by decide)) _ (by first | exact HV | exact HU | exact fnLies q _ _) Hp.out ?_; intro w9 ht hg; replace HT2 := hid (Tab.grown HT2.out hg.out Hp.out Hm2.out); replace HT := ht; replace HN := hid (News.grown HN.out hg.out); replace HB := hid (grown_below HB.out hg.out (Nat.le_refl _) Hm.out); replace HV := hid (Lies.keep (same_grown hg.out Hp.out) _ _ HV.out); replace HU := hid (Lies.keep (same_grown hg.out Hp.out) _ _ HU.out); clear ht hg)
    | (at_mapUpdate; refine wpList_update_tab _ rfl _ _ _ 51 rfl 5 77 key5 Tryz.underlying51 rfl HT (by unfold maxLen; omega) _ (keyOf_int_mk Tryz.underlying5 (by decide)) _ (by first | exact HV | exact HU | exact fnLies q _ _) Hp.out ?_; intro w9 ht hg; replace HT2 := hid (Tab.grown HT2.out hg.out Hp.out Hm2.out); replace HT := ht; replace HN := hid (News.grown HN.out hg.out); replace HB := hid (grown_below HB.out hg.out (Nat.le_refl _) Hm.out); replace HV := hid (Lies.keep (same_grown hg.out Hp.out) _ _ HV.out); replace HU := hid (Lies.keep (same_grown hg.out Hp.out) _ _ HU.out); clear ht hg)
    | ((with_reducible change wpList _ _ _ (⟨_, Op.mapEntry _ _ _, _, _, _, _⟩ :: _) _ _); refine wpList_entry_tab _ rfl _ _ 51 rfl 5 77 key5 Tryz.underlying51 zero77 rfl HT (by unfold maxLen; omega) _ (keyOf_int_mk Tryz.underlying5 (by decide)) Hp.out ?_; intro v0 st w9 ht he hg; replace HT2 := hid (Tab.grown HT2.out hg.out Hp.out Hm2.out); replace HT := ht; replace HN := hid (News.grown HN.out hg.out); replace HB := hid (grown_below HB.out hg.out (Nat.le_refl _) Hm.out); replace HV := hid (Lies.keep (same_grown hg.out Hp.out) _ _ HV.out); replace HU := hid (Lies.keep (same_grown hg.out Hp.out) _ _ HU.out); clear ht hg)
    | ((with_reducible change wpList _ _ _ (⟨_, Op.entryStore _ _ _ _, _, _, _, _⟩ :: _) _ _); refine wpList_estore_tab _ rfl _ _ _ 51 rfl 5 77 key5 Tryz.underlying51 rfl HT (by unfold maxLen; omega) _ _ _ rfl (keyOf_int_mk Tryz.underlying5 (by decide)) he _ (by first | exact HV | exact HU | exact fnLies q _ _) Hp.out ?_; intro w9 ht hg; clear he; replace HT2 := hid (Tab.grown HT2.out hg.out Hp.out Hm2.out); replace HT := ht; replace HN := hid (News.grown HN.out hg.out); replace HB := hid (grown_below HB.out hg.out (Nat.le_refl _) Hm.out); replace HV := hid (Lies.keep (same_grown hg.out Hp.out) _ _ HV.out); replace HU := hid (Lies.keep (same_grown hg.out Hp.out) _ _ HU.out); clear ht hg)
    | (go_at_call 86; refine (param_any q _ _ HN.out).mono ?_; rintro e9 w9 ⟨f9, c9, rfl, hl, hb⟩; replace HT2 := hid (Tab.keep HT2.out hb); replace HT := hid (Tab.keep HT.out hb); replace HN := hid (News.up HN.out hb); replace HB := hid (Below.step HB.out hb); replace HU := hid (Lies.keep (same_below hb q) _ _ HV.out); replace HV := hid hl; clear hl hb)
    | (go_at_call 84; refine (unless0_any q _ _ _ _ HN.out (by first | exact HV | exact fnLies q _ _)).mono ?_; rintro e9 w9 ⟨f9, c9, rfl, hl, hb⟩; replace HT2 := hid (Tab.keep HT2.out hb); replace HT := hid (Tab.keep HT.out hb); replace HN := hid (News.up HN.out hb); replace HB := hid (Below.step HB.out hb); replace HU := hid (Lies.keep (same_below hb q) _ _ HV.out); replace HV := hid hl; clear hl hb)
    | (go_at_call 87; refine (wholly_any q _ _ _ _ _ HN.out (by first | exact HV | exact fnLies q _ _)).mono ?_; rintro e9 w9 ⟨f9, c9, rfl, hl, hb⟩; replace HT2 := hid (Tab.keep HT2.out hb); replace HT := hid (Tab.keep HT.out hb); replace HN := hid (News.up HN.out hb); replace HB := hid (Below.step HB.out hb); replace HU := hid (Lies.keep (same_below hb q) _ _ HV.out); replace HV := hid hl; clear hl hb)
    | (go_at_call 85; refine (both_any q _ _ HN.out).mono ?_; rintro e9 w9 ⟨f9, c9, rfl, hl, hb⟩; replace HT2 := hid (Tab.keep HT2.out hb); replace HT := hid (Tab.keep HT.out hb); replace HN := hid (News.up HN.out hb); replace HB := hid (Below.step HB.out hb); replace HU := hid (Lies.keep (same_below hb q) _ _ HV.out); replace HV := hid hl; clear hl hb)
    | (go_at_call 88; refine (halved_any q _ _ _ _ _ HN.out (by first | exact HV | exact fnLies q _ _)).mono ?_; rintro e9 w9 ⟨f9, c9, rfl, hl, hb⟩; replace HT2 := hid (Tab.keep HT2.out hb); replace HT := hid (Tab.keep HT.out hb); replace HN := hid (News.up HN.out hb); replace HB := hid (Below.step HB.out hb); replace HU := hid (Lies.keep (same_below hb q) _ _ HV.out); replace HV := hid hl; clear hl hb)
    | (go_at_call 97; refine (byHigh_any q _ _ _ _ HN.out Hm2.out HT2.out).mono ?_; rintro e9 w9 ⟨f9, c9, rfl, hl, hb⟩; replace HT2 := hid (Tab.keep HT2.out hb); replace HT := hid (Tab.keep HT.out hb); replace HN := hid (News.up HN.out hb); replace HB := hid (Below.step HB.out hb); replace HU := hid (Lies.keep (same_below hb q) _ _ HV.out); replace HV := hid hl; clear hl hb)
    | (go_at_call 114; refine (doubled_any q _ _ _ HN.out).mono ?_; rintro e9 w9 ⟨f9, c9, rfl, hl, hb⟩; replace HT2 := hid (Tab.keep HT2.out hb); replace HT := hid (Tab.keep HT.out hb); replace HN := hid (News.up HN.out hb); replace HB := hid (Below.step HB.out hb); replace HU := hid (Lies.keep (same_below hb q) _ _ HV.out); replace HV := hid hl; clear hl hb)
    | go_in)
  go_ret
  exact ⟨_, _, q, rfl, Hm, Hs, Hp, HN, by omega, HT, HB⟩
end Go.Proofs.YtkpielgdfahanaaGreat
