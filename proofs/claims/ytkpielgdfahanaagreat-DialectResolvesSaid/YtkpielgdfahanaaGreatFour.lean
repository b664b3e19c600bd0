/- dialect.four, scream, compose: the effects of three dialects. -/
import Derived.Test.YtkpielgdfahanaaGreatExtd
namespace Go.Proofs.YtkpielgdfahanaaGreat
open Go.RowKit Go.Maps

theorem Tab.wider {p p' : Nat → Prop} {k : TypeId} {q : IntKind} {b n : Nat} {G : Int → Eff} {w : World} (hs : ∀ c, p c → p' c) (h : Tab p k q b n G w) : Tab p' k q b n G w := by
  obtain ⟨g, h1, h2⟩ := h; exact ⟨g, h1, fun x => Lies.wider hs _ _ (h2 x)⟩
theorem Tab.grown {p : Nat → Prop} {k : TypeId} {q : IntKind} {b n m : Nat} {G : Int → Eff} {w w' : World} (h : Tab p k q b n G w) (hg : w.grownBy w' (some m)) (hp : ¬ p m) (hb : p b) : Tab p k q b n G w' := by
  obtain ⟨g, h1, h2⟩ := h
  have hs := same_grown hg hp
  exact ⟨g, h1.kept (hs b hb h1.lt), fun x => Lies.keep hs _ _ (h2 x)⟩
theorem Lies.within {p : Nat → Prop} {w : World} : ∀ (e : Eff) (v : Value), Lies p e v w → Lies (fun c => p c ∧ c < w.heap.size) e v w
  | .nil, _, h => h
  | .fn _, _, h => h
  | .param _, _, ⟨c, h1, h2⟩ => ⟨c, h1, h2.within⟩
  | .both _, _, ⟨c, h1, h2⟩ => ⟨c, h1, h2.within⟩
  | .lowHalf _, _, ⟨c, h1, h2⟩ => ⟨c, h1, h2.within⟩
  | .wave _, _, ⟨c, h1, h2⟩ => ⟨c, h1, h2.within⟩
  | .doubled _ _, _, ⟨c, d, h1, h2, h3⟩ => ⟨c, d, h1, h2.within, h3.within⟩
  | .extra _ _, _, ⟨c, d, h1, h2, h3⟩ => ⟨c, d, h1, h2.within, h3.within⟩
  | .unless0 e, _, ⟨c, v', h1, h2, h3⟩ => ⟨c, v', h1, h2.within, Lies.within e v' h3⟩
  | .wholly _ e, _, ⟨c, d, v', h1, h2, h3, h4⟩ => ⟨c, d, v', h1, h2.within, h3.within, Lies.within e v' h4⟩
  | .halved _ e, _, ⟨c, d, v', h1, h2, h3, h4⟩ => ⟨c, d, v', h1, h2.within, h3.within, Lies.within e v' h4⟩
  | .low _ e, _, ⟨c, d, v', h1, h2, h3, h4⟩ => ⟨c, d, v', h1, h2.within, h3.within, Lies.within e v' h4⟩
  | .upTo _ e, _, ⟨c, d, v', h1, h2, h3, h4⟩ => ⟨c, d, v', h1, h2.within, h3.within, Lies.within e v' h4⟩
  | .byHigh g, _, ⟨c, b, n, gv, h1, h2, hb, h3, h4⟩ => ⟨c, b, n, gv, h1, h2.within, ⟨hb, h3.lt⟩, h3, fun x => Lies.within (g x) _ (h4 x)⟩

def fourE : Int → Eff := upd (upd (upd (upd (upd (upd (upd (upd (upd (upd (upd (upd (upd (upd (upd (upd (fun _ => .nil) 48 (.unless0 (.both 1))) 49 (.param 2)) 50 (.param 3)) 51 (.wholly 1 (.param 8))) 52 (.halved 2 (.both 9))) 53 (.fn 89)) 54 (.fn 90)) 55 (.halved 3 (.both 11))) 56 (.fn 92)) 57 (.wholly 4 (.fn 94))) 65 (.both 12)) 66 (.param 32)) 67 (.fn 95)) 68 (.fn 96)) 69 (.byHigh extE)) 70 (.fn 99)
set_option maxHeartbeats 4000000 in
set_option maxRecDepth 100000 in
theorem four_any (w : World) : Calls Tryz.prog 78 #[] w (Built 5 .u8 fourE w) := by
  obtain ⟨p, hpe⟩ : ∃ p : Nat → Prop, p = fun c => w.heap.size < c := ⟨_, rfl⟩
  have HT : Hid (Tab p 5 .u8 w.heap.size 0 (fun _ => .nil) (w.alloc (.map #[] 0))) := hid (Tab.made _ _ _ _)
  have HN : Hid (News p (w.alloc (.map #[] 0))) := hid (fun c hc => by rw [hpe]; simp at hc; show w.heap.size < c; omega)
  have HB : Hid (Below w.heap.size w (w.alloc (.map #[] 0))) := hid (below1 w _)
  have Hm : Hid (w.heap.size ≤ w.heap.size) := hid (Nat.le_refl _)
  have Hp : Hid (¬ p w.heap.size) := hid (by rw [hpe]; exact Nat.lt_irrefl _)
  have Hs : Hid (∀ c, p c → w.heap.size ≤ c) := hid (fun c hc => by rw [hpe] at hc; exact Nat.le_of_lt hc)
  have HV : Hid (Lies p .nil .nilFunc (w.alloc (.map #[] 0))) := hid rfl
  have HU : Hid (Lies p .nil .nilFunc (w.alloc (.map #[] 0))) := hid rfl
  have hmm := @run_makeMap Tryz.prog
  clear hpe
  go_enter Tryz.func78, Tryz.ntmps78
  go_wp2_with (first
    | ((with_reducible change wpList _ _ _ (⟨_, Op.insert _ _ _ _, _, _, _, _⟩ :: _) _ _); refine wpList_insert_tab _ rfl _ _ _ 51 rfl 5 77 key5 Tryz.underlying51 rfl HT (by unfold maxLen; omega) _ (keyOf_int_mk Tryz.underlying5 (by decide)) _ (by first | exact HV | exact HU | exact fnLies p _ _) Hp.out ?_; intro w9 ht hg; replace HT := ht; replace HN := hid (News.grown HN.out hg.out); replace HB := hid (grown_below HB.out hg.out (Nat.le_refl _) Hm.out); replace HV := hid (Lies.keep (same_grown hg.out Hp.out) _ _ HV.out); replace HU := hid (Lies.keep (same_grown hg.out Hp.out) _ _ HU.out); clear ht hg)
    | (at_mapUpdate; refine wpList_update_tab _ rfl _ _ _ 51 rfl 5 77 key5 Tryz.underlying51 rfl HT (by unfold maxLen; omega) _ (keyOf_int_mk Tryz.underlying5 (by decide)) _ (by first | exact HV | exact HU | exact fnLies p _ _) Hp.out ?_; intro w9 ht hg; replace HT := ht; replace HN := hid (News.grown HN.out hg.out); replace HB := hid (grown_below HB.out hg.out (Nat.le_refl _) Hm.out); replace HV := hid (Lies.keep (same_grown hg.out Hp.out) _ _ HV.out); replace HU := hid (Lies.keep (same_grown hg.out Hp.out) _ _ HU.out); clear ht hg)
    | ((with_reducible change wpList _ _ _ (⟨_, Op.mapEntry _ _ _, _, _, _, _⟩ :: _) _ _); refine wpList_entry_tab _ rfl _ _ 51 rfl 5 77 key5 Tryz.underlying51 zero77 rfl HT (by unfold maxLen; omega) _ (keyOf_int_mk Tryz.underlying5 (by decide)) Hp.out ?_; intro v0 st w9 ht he hg; replace HT := ht; replace HN := hid (News.grown HN.out hg.out); replace HB := hid (grown_below HB.out hg.out (Nat.le_refl _) Hm.out); replace HV := hid (Lies.keep (same_grown hg.out Hp.out) _ _ HV.out); replace HU := hid (Lies.keep (same_grown hg.out Hp.out) _ _ HU.out); clear ht hg)
    | ((with_reducible change wpList _ _ _ (⟨_, Op.entryStore _ _ _ _, _, _, _, _⟩ :: _) _ _); refine wpList_estore_tab _ rfl _ _ _ 51 rfl 5 77 key5 Tryz.underlying51 rfl HT (by unfold maxLen; omega) _ _ _ rfl (keyOf_int_mk Tryz.underlying5 (by decide)) he _ (by first | exact HV | exact HU | exact fnLies p _ _) Hp.out ?_; intro w9 ht hg; clear he; replace HT := ht; replace HN := hid (News.grown HN.out hg.out); replace HB := hid (grown_below HB.out hg.out (Nat.le_refl _) Hm.out); replace HV := hid (Lies.keep (same_grown hg.out Hp.out) _ _ HV.out); replace HU := hid (Lies.keep (same_grown hg.out Hp.out) _ _ HU.out); clear ht hg)
    | (go_at_call 85; refine (both_any p _ _ HN.out).mono ?_; rintro e9 w9 ⟨f9, c9, rfl, hl, hb⟩; replace HT := hid (Tab.keep HT.out hb); replace HN := hid (News.up HN.out hb); replace HB := hid (Below.step HB.out hb); replace HU := hid (Lies.keep (same_below hb p) _ _ HV.out); replace HV := hid hl; clear hl hb)
    | (go_at_call 84; refine (unless0_any p _ _ _ _ HN.out (by first | exact HV | exact fnLies p _ _)).mono ?_; rintro e9 w9 ⟨f9, c9, rfl, hl, hb⟩; replace HT := hid (Tab.keep HT.out hb); replace HN := hid (News.up HN.out hb); replace HB := hid (Below.step HB.out hb); replace HU := hid (Lies.keep (same_below hb p) _ _ HV.out); replace HV := hid hl; clear hl hb)
    | (go_at_call 86; refine (param_any p _ _ HN.out).mono ?_; rintro e9 w9 ⟨f9, c9, rfl, hl, hb⟩; replace HT := hid (Tab.keep HT.out hb); replace HN := hid (News.up HN.out hb); replace HB := hid (Below.step HB.out hb); replace HU := hid (Lies.keep (same_below hb p) _ _ HV.out); replace HV := hid hl; clear hl hb)
    | (go_at_call 87; refine (wholly_any p _ _ _ _ _ HN.out (by first | exact HV | exact fnLies p _ _)).mono ?_; rintro e9 w9 ⟨f9, c9, rfl, hl, hb⟩; replace HT := hid (Tab.keep HT.out hb); replace HN := hid (News.up HN.out hb); replace HB := hid (Below.step HB.out hb); replace HU := hid (Lies.keep (same_below hb p) _ _ HV.out); replace HV := hid hl; clear hl hb)
    | (go_at_call 88; refine (halved_any p _ _ _ _ _ HN.out (by first | exact HV | exact fnLies p _ _)).mono ?_; rintro e9 w9 ⟨f9, c9, rfl, hl, hb⟩; replace HT := hid (Tab.keep HT.out hb); replace HN := hid (News.up HN.out hb); replace HB := hid (Below.step HB.out hb); replace HU := hid (Lies.keep (same_below hb p) _ _ HV.out); replace HV := hid hl; clear hl hb)
    | (go_at_call 98; refine (extended_any _).mono ?_; rintro e9 w9 ⟨m2, N2, p2, rfl, hm2, hs2, _, _, hN2, ht2, hb⟩; have HT2 := hid (Tab.wider (fun c hc => HN.out c (hs2 c hc)) ht2); have Hm2 : Hid (p m2) := hid (HN.out m2 hm2); clear hm2 hs2 hN2 ht2; replace HT := hid (Tab.keep HT.out hb); replace HN := hid (News.up HN.out hb); replace HB := hid (Below.step HB.out hb); replace HU := hid (Lies.keep (same_below hb p) _ _ HU.out); replace HV := hid (Lies.keep (same_below hb p) _ _ HV.out); clear hb)
    | (go_at_call 97; refine (byHigh_any p _ _ _ _ HN.out Hm2.out HT2.out).mono ?_; rintro e9 w9 ⟨f9, c9, rfl, hl, hb⟩; replace HT := hid (Tab.keep HT.out hb); replace HN := hid (News.up HN.out hb); replace HB := hid (Below.step HB.out hb); replace HU := hid (Lies.keep (same_below hb p) _ _ HV.out); replace HV := hid hl; clear hl hb)
    | go_in)
  go_ret
  exact ⟨_, _, p, rfl, Hm, Hs, Hp, HN, by omega, HT, HB⟩

def composeE : Int → Eff := upd (upd (upd (upd (upd (upd (fun _ => .nil) 48 (.param 2)) 49 (.param 3)) 50 (.param 8)) 51 (.lowHalf 4)) 52 (.both 9)) 53 (.unless0 (.param 36))
set_option maxHeartbeats 4000000 in
set_option maxRecDepth 100000 in
theorem compose_any (w : World) : Calls Tryz.prog 82 #[] w (Built 5 .u8 composeE w) := by
  obtain ⟨p, hpe⟩ : ∃ p : Nat → Prop, p = fun c => w.heap.size < c := ⟨_, rfl⟩
  have HT : Hid (Tab p 5 .u8 w.heap.size 0 (fun _ => .nil) (w.alloc (.map #[] 0))) := hid (Tab.made _ _ _ _)
  have HN : Hid (News p (w.alloc (.map #[] 0))) := hid (fun c hc => by rw [hpe]; simp at hc; show w.heap.size < c; omega)
  have HB : Hid (Below w.heap.size w (w.alloc (.map #[] 0))) := hid (below1 w _)
  have Hm : Hid (w.heap.size ≤ w.heap.size) := hid (Nat.le_refl _)
  have Hp : Hid (¬ p w.heap.size) := hid (by rw [hpe]; exact Nat.lt_irrefl _)
  have Hs : Hid (∀ c, p c → w.heap.size ≤ c) := hid (fun c hc => by rw [hpe] at hc; exact Nat.le_of_lt hc)
  have HV : Hid (Lies p .nil .nilFunc (w.alloc (.map #[] 0))) := hid rfl
  have HU : Hid (Lies p .nil .nilFunc (w.alloc (.map #[] 0))) := hid rfl
  have hmm := @run_makeMap Tryz.prog
  clear hpe
  go_enter Tryz.func82, Tryz.ntmps82
  go_wp2_with (first
    | ((with_reducible change wpList _ _ _ (⟨_, Op.insert _ _ _ _, _, _, _, _⟩ :: _) _ _); refine wpList_insert_tab _ rfl _ _ _ 51 rfl 5 77 key5 Tryz.underlying51 rfl HT (by unfold maxLen; omega) _ (keyOf_int_mk Tryz.underlying5 (by decide)) _ (by first | exact HV | exact HU | exact fnLies p _ _) Hp.out ?_; intro w9 ht hg; replace HT := ht; replace HN := hid (News.grown HN.out hg.out); replace HB := hid (grown_below HB.out hg.out (Nat.le_refl _) Hm.out); replace HV := hid (Lies.keep (same_grown hg.out Hp.out) _ _ HV.out); replace HU := hid (Lies.keep (same_grown hg.out Hp.out) _ _ HU.out); clear ht hg)
    | (at_mapUpdate; refine wpList_update_tab _ rfl _ _ _ 51 rfl 5 77 key5 Tryz.underlying51 rfl HT (by unfold maxLen; omega) _ (keyOf_int_mk Tryz.underlying5 (by decide)) _ (by first | exact HV | exact HU | exact fnLies p _ _) Hp.out ?_; intro w9 ht hg; replace HT := ht; replace HN := hid (News.grown HN.out hg.out); replace HB := hid (grown_below HB.out hg.out (Nat.le_refl _) Hm.out); replace HV := hid (Lies.keep (same_grown hg.out Hp.out) _ _ HV.out); replace HU := hid (Lies.keep (same_grown hg.out Hp.out) _ _ HU.out); clear ht hg)
    | ((with_reducible change wpList _ _ _ (⟨_, Op.mapEntry _ _ _, _, _, _, _⟩ :: _) _ _); refine wpList_entry_tab _ rfl _ _ 51 rfl 5 77 key5 Tryz.underlying51 zero77 rfl HT (by unfold maxLen; omega) _ (keyOf_int_mk Tryz.underlying5 (by decide)) Hp.out ?_; intro v0 st w9 ht he hg; replace HT := ht; replace HN := hid (News.grown HN.out hg.out); replace HB := hid (grown_below HB.out hg.out (Nat.le_refl _) Hm.out); replace HV := hid (Lies.keep (same_grown hg.out Hp.out) _ _ HV.out); replace HU := hid (Lies.keep (same_grown hg.out Hp.out) _ _ HU.out); clear ht hg)
    | ((with_reducible change wpList _ _ _ (⟨_, Op.entryStore _ _ _ _, _, _, _, _⟩ :: _) _ _); refine wpList_estore_tab _ rfl _ _ _ 51 rfl 5 77 key5 Tryz.underlying51 rfl HT (by unfold maxLen; omega) _ _ _ rfl (keyOf_int_mk Tryz.underlying5 (by decide)) he _ (by first | exact HV | exact HU | exact fnLies p _ _) Hp.out ?_; intro w9 ht hg; clear he; replace HT := ht; replace HN := hid (News.grown HN.out hg.out); replace HB := hid (grown_below HB.out hg.out (Nat.le_refl _) Hm.out); replace HV := hid (Lies.keep (same_grown hg.out Hp.out) _ _ HV.out); replace HU := hid (Lies.keep (same_grown hg.out Hp.out) _ _ HU.out); clear ht hg)
    | (go_at_call 85; refine (both_any p _ _ HN.out).mono ?_; rintro e9 w9 ⟨f9, c9, rfl, hl, hb⟩; replace HT := hid (Tab.keep HT.out hb); replace HN := hid (News.up HN.out hb); replace HB := hid (Below.step HB.out hb); replace HU := hid (Lies.keep (same_below hb p) _ _ HV.out); replace HV := hid hl; clear hl hb)
    | (go_at_call 84; refine (unless0_any p _ _ _ _ HN.out (by first | exact HV | exact fnLies p _ _)).mono ?_; rintro e9 w9 ⟨f9, c9, rfl, hl, hb⟩; replace HT := hid (Tab.keep HT.out hb); replace HN := hid (News.up HN.out hb); replace HB := hid (Below.step HB.out hb); replace HU := hid (Lies.keep (same_below hb p) _ _ HV.out); replace HV := hid hl; clear hl hb)
    | (go_at_call 86; refine (param_any p _ _ HN.out).mono ?_; rintro e9 w9 ⟨f9, c9, rfl, hl, hb⟩; replace HT := hid (Tab.keep HT.out hb); replace HN := hid (News.up HN.out hb); replace HB := hid (Below.step HB.out hb); replace HU := hid (Lies.keep (same_below hb p) _ _ HV.out); replace HV := hid hl; clear hl hb)
    | (go_at_call 126; refine (lowHalf_any p _ _ HN.out).mono ?_; rintro e9 w9 ⟨f9, c9, rfl, hl, hb⟩; replace HT := hid (Tab.keep HT.out hb); replace HN := hid (News.up HN.out hb); replace HB := hid (Below.step HB.out hb); replace HU := hid (Lies.keep (same_below hb p) _ _ HV.out); replace HV := hid hl; clear hl hb)
    | go_in)
  go_ret
  exact ⟨_, _, p, rfl, Hm, Hs, Hp, HN, by omega, HT, HB⟩
end Go.Proofs.YtkpielgdfahanaaGreat
