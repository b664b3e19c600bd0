/- dialect.impulse: the effects of impulse. -/
import Derived.Test.YtkpielgdfahanaaGreatFast
import Derived.Laws.EntriesVeiled
/- dialect.special, impulse: the effects of impulse. -/
namespace Go.Proofs.YtkpielgdfahanaaGreat
open Go.RowKit Go.Maps
def impS : Int → Eff := upd (upd (upd (upd (upd (timedE 11) 3 (.wave 25)) 4 (.wave 26)) 8 (.fn 104)) 7 (.fn 140)) 9 (.fn 141)
set_option maxHeartbeats 2000000 in
set_option maxRecDepth 100000 in
theorem special_any (w : World) : Calls Tryz.prog 122 #[] w (Built 3 .i64 impS w) := by
  go_enter Tryz.func122, Tryz.ntmps122
  go_wp2_with fail
  go_at_call 100
  refine (timed_any 11 _ (Or.inr rfl)).mono ?_
  rintro e w9 ⟨m, N, p, rfl, hm, hs, hp, hn, hN, ht, hb⟩
  have HT := hid ht
  have HN := hid hn
  have HB := hid hb
  have Hm := hid hm
  have Hp := hid hp
  have Hs := hid hs
  have HV : Hid (Lies p .nil .nilFunc w9) := hid rfl
  have HU : Hid (Lies p .nil .nilFunc w9) := hid rfl
  clear ht hn hb hm hp hs
  go_wp2_with (first
    | ((with_reducible change wpList _ _ _ (⟨_, Op.insert _ _ _ _, _, _, _, _⟩ :: _) _ _); refine wpList_insert_tab _ rfl _ _ _ 87 rfl 3 77 key3 Tryz.underlying87 rfl HT (by unfold maxLen; omega) _ (keyOf_int_mk Tryz.underlying3 (by decide)) _ (by first | exact HV | exact HU | exact fnLies p _ _) Hp.out ?_; intro w9 ht hg; replace HT := ht; replace HN := hid (News.grown HN.out hg.out); replace HB := hid (grown_below HB.out hg.out (Nat.le_refl _) Hm.out); replace HV := hid (Lies.keep (same_grown hg.out Hp.out) _ _ HV.out); replace HU := hid (Lies.keep (same_grown hg.out Hp.out) _ _ HU.out); clear ht hg)
    | (at_mapUpdate; refine wpList_update_tab _ rfl _ _ _ 87 rfl 3 77 key3 Tryz.underlying87 rfl HT (by unfold maxLen; omega) _ (keyOf_int_mk Tryz.underlying3 (by decide)) _ (by first | exact HV | exact HU | exact fnLies p _ _) Hp.out ?_; intro w9 ht hg; replace HT := ht; replace HN := hid (News.grown HN.out hg.out); replace HB := hid (grown_below HB.out hg.out (Nat.le_refl _) Hm.out); replace HV := hid (Lies.keep (same_grown hg.out Hp.out) _ _ HV.out); replace HU := hid (Lies.keep (same_grown hg.out Hp.out) _ _ HU.out); clear ht hg)
    | ((with_reducible change wpList _ _ _ (⟨_, Op.mapEntry _ _ _, _, _, _, _⟩ :: _) _ _); refine wpList_entry_tab _ rfl _ _ 87 rfl 3 77 key3 Tryz.underlying87 zero77 rfl HT (by unfold maxLen; omega) _ (keyOf_int_mk Tryz.underlying3 (by decide)) Hp.out ?_; intro v0 st w9 ht he hg; replace HT := ht; replace HN := hid (News.grown HN.out hg.out); replace HB := hid (grown_below HB.out hg.out (Nat.le_refl _) Hm.out); replace HV := hid (Lies.keep (same_grown hg.out Hp.out) _ _ HV.out); replace HU := hid (Lies.keep (same_grown hg.out Hp.out) _ _ HU.out); clear ht hg)
    | ((with_reducible change wpList _ _ _ (⟨_, Op.entryStore _ _ _ _, _, _, _, _⟩ :: _) _ _); refine wpList_estore_tab _ rfl _ _ _ 87 rfl 3 77 key3 Tryz.underlying87 rfl HT (by unfold maxLen; omega) _ _ _ rfl (keyOf_int_mk Tryz.underlying3 (by decide)) he _ (by first | exact HV | exact HU | exact fnLies p _ _) Hp.out ?_; intro w9 ht hg; clear he; replace HT := ht; replace HN := hid (News.grown HN.out hg.out); replace HB := hid (grown_below HB.out hg.out (Nat.le_refl _) Hm.out); replace HV := hid (Lies.keep (same_grown hg.out Hp.out) _ _ HV.out); replace HU := hid (Lies.keep (same_grown hg.out Hp.out) _ _ HU.out); clear ht hg)
    | (go_at_call 103; refine (wave_any p _ _ HN.out).mono ?_; rintro e9 w9 ⟨f9, c9, rfl, hl, hb⟩; replace HT := hid (Tab.keep HT.out hb); replace HN := hid (News.up HN.out hb); replace HB := hid (Below.step HB.out hb); replace HU := hid (Lies.keep (same_below hb p) _ _ HV.out); replace HV := hid hl; clear hl hb)
    | go_in)
  go_ret
  exact ⟨m, _, p, rfl, Hm, Hs, Hp, HN, by omega, HT, HB⟩

def impK (x : Int) : Option Value := if x = 81 then some (.int .i64 10) else if x = 74 then some (.int .i64 7) else if x = 73 then some (.int .i64 6) else if x = 70 then some (.int .i64 5) else if x = 69 then some (.int .i64 5) else none
def impI : Int → Eff := upd (upd (upd (upd (upd (fun _ => .nil) 69 (.fn 106)) 70 (.fn 107)) 73 (.fn 108)) 74 (.both 1)) 81 (.fn 112)
def turn3 (G : Int → Eff) (h : Int → Option Value) (left : Int → Bool) (x : Int) : Eff :=
  match h x with | some (.int .i64 k) => if left x then G x else .wholly k (impI x) | _ => G x
theorem turn3_start (G : Int → Eff) (h : Int → Option Value) : turn3 G h (fun x => (h x).isSome) = G := by
  funext x; unfold turn3; cases hx : h x with
  | none => rfl
  | some v => cases v <;> try rfl
              rename_i k n; cases k <;> simp [hx]
theorem turn3_step {G : Int → Eff} {h : Int → Option Value} {left : Int → Bool} {x k : Int} (hx : h x = some (.int .i64 k)) : upd (turn3 G h left) x (.wholly k (impI x)) = turn3 G h (fun y => left y && !(y == x)) := by
  funext y
  unfold upd
  by_cases e : y = x
  · subst e; simp [turn3, hx]
  · simp only [e, if_false, turn3]
    cases hy : h y with
    | none => rfl
    | some v => cases v <;> try rfl
                rename_i k n; cases k <;> simp [e]
theorem impK_int {x : Int} {v : Value} (h : impK x = some v) : ∃ k, v = .int .i64 k ∧ impI x ≠ .nil := by
  unfold impK at h
  split at h
  · cases h; rename_i e; subst e; exact ⟨_, rfl, by simp [impI, upd]⟩
  split at h
  · cases h; rename_i e; subst e; exact ⟨_, rfl, by simp [impI, upd]⟩
  split at h
  · cases h; rename_i e; subst e; exact ⟨_, rfl, by simp [impI, upd]⟩
  split at h
  · cases h; rename_i e; subst e; exact ⟨_, rfl, by simp [impI, upd]⟩
  split at h
  · cases h; rename_i e; subst e; exact ⟨_, rfl, by simp [impI, upd]⟩
  · cases h
/-- A new map of effects is laid beside a table. -/
theorem phase5 {w w9 : World} {p : Nat → Prop} {m N : Nat} {G : Int → Eff} (HT : Tab p 5 .u8 m N G w9) (Hp : ¬ p m) (Hs : ∀ c, p c → w.heap.size ≤ c) (HB : Below w.heap.size w w9) :
    ∃ q : Nat → Prop, Tab q 5 .u8 m N G (w9.alloc (.map #[] 0)) ∧ ¬ q m ∧ News q (w9.alloc (.map #[] 0)) ∧ ¬ q w9.heap.size ∧ (∀ c, q c → w.heap.size ≤ c) ∧
      Tab q 5 .u8 w9.heap.size 0 (fun _ => .nil) (w9.alloc (.map #[] 0)) ∧ Below w.heap.size w (w9.alloc (.map #[] 0)) ∧ m < w9.heap.size ∧ (∀ c, c < w9.heap.size → ¬ p c → ¬ q c) ∧ w.heap.size ≤ w9.heap.size := by
  have hlt := HT.lt
  have hsz := HB.size
  refine ⟨fun c => (p c ∧ c < w9.heap.size) ∨ w9.heap.size < c, Tab.keep (Tab.wider (fun c hc => Or.inl hc) (Tab.within HT)) (below1 w9 _), fun h => ?_, fun c hc => ?_, fun h => ?_, fun c hc => ?_, Tab.made _ _ _ _, Below.step HB (below1 w9 _), hlt, fun c hc hn h => ?_, hsz⟩
  · rcases h with h | h
    · exact Hp h.1
    · omega
  · simp at hc; exact Or.inr (by omega)
  · rcases h with h | h <;> omega
  · rcases hc with h | h
    · exact Hs c h.1
    · omega
  · rcases h with h | h
    · exact hn h.1
    · omega
def imp1E : Int → Eff := turn3 screamE impK (fun _ => false)
def impulseE : Int → Eff := upd (upd (upd (upd (upd (upd (upd (upd (upd (upd (upd (upd (imp1E) 67 (.param 33)) 77 (.upTo 64 (.param 30))) 78 (.wholly 8 (.both 31))) 80 (.wholly 9 (.fn 121))) 82 (.halved 11 (.both 11))) 83 (.wholly 12 (.byHigh impS))) 84 (.wholly 13 (.fn 123))) 86 (.upTo 128 (.param 28))) 87 (.wholly 14 (.both 29))) 88 (.fn 124)) 89 (.halved 15 (.both 46))) 90 (.fn 125)
end Go.Proofs.YtkpielgdfahanaaGreat
namespace Go.Proofs.YtkpielgdfahanaaGreat
open Go.RowKit Go.Maps

set_option maxHeartbeats 4000000 in
set_option maxRecDepth 100000 in
theorem impulse_any (w : World) : Calls Tryz.prog 81 #[] w (BuiltN 2000 5 .u8 impulseE w) := by
  have hmm := @run_makeMap Tryz.prog
  go_enter Tryz.func81, Tryz.ntmps81
  go_wp2_with fail
  go_at_call 79
  refine (scream_any _).mono ?_
  rintro e w9 ⟨m, N, p, rfl, hm, hs, hp, hn, hN, ht, hb⟩
  have HT := hid ht
  have HN := hid hn
  have HB := hid hb
  have Hm := hid hm
  have Hp := hid hp
  have Hs := hid hs
  have HNN := hid hN
  clear ht hn hb hm hp hs hN
  have HO : Hid (OMap Tryz.prog 5 .u8 w9.heap.size 0 (fun _ => none) (w9.alloc (.map #[] 0))) := hid (OMap.made _ _ _ _)
  have HG : Hid (Below w9.heap.size w9 (w9.alloc (.map #[] 0))) := hid (below1 _ _)
  go_wp2_with (first
    | ((with_reducible change wpList _ _ _ (⟨_, Op.insert _ _ _ _, _, _, _, _⟩ :: _) _ _); refine wpList_insert_o _ rfl _ _ _ 91 rfl 5 3 key5 Tryz.underlying91 _ _ _ rfl HO (by unfold maxLen; omega) _ (keyOf_int_mk Tryz.underlying5 (by decide)) (.int .i64 _) rfl ?_; intro w8 ho hg; replace HO := ho; replace HG := hid (grown_below HG.out hg.out (Nat.le_refl _) (Nat.le_refl _)); clear ho hg)
    | (at_range; refine wpList_range_o _ rfl _ 91 rfl 5 3 key5 Tryz.underlying91 _ _ _ rfl HO ?_; intro w7 cnt HR hcnt hg hsz)
    | fail)
  obtain ⟨b, hbe⟩ : ∃ b, b = w9.heap.size := ⟨_, rfl⟩
  obtain ⟨r, hre⟩ : ∃ r, r = w8.heap.size := ⟨_, rfl⟩
  have HR1 : Hid (ORan Tryz.prog 5 .u8 b r 5 impK (fun x => (impK x).isSome) cnt w7) := by rw [hbe, hre]; exact HR
  have hbr : b < r := by rw [hbe, hre]; exact HO.out.lt
  have hb97 : Below w9.heap.size w9 w7 := HG.out.grown hg.out HG.out.size (fun j hj => by cases hj)
  obtain ⟨p', f1, f2, f3, f4, f5, f6, f7, _⟩ := rephase HT.out Hp.out Hs.out HB.out hbe hbr (by rw [hsz, ← hre]) hb97
  replace HB := hid (Below.step HB.out hb97)
  have HC := hid hcnt
  rw [← hbe, ← hre]
  have Hbr := hid hbr
  clear HR HO HG hg hsz hb97 hcnt hbe hre HT HN Hp Hs hbr
  have HT1 : Hid (Tab p' 5 .u8 m N (turn3 screamE impK (fun x => (impK x).isSome)) w7) := hid (by rw [turn3_start]; exact f1)
  have Hp1 := hid f2
  have Hpb1 := hid f3
  have Hpr1 := hid f4
  have HN1 := hid f5
  have Hs1 := hid f6
  have Hmb := hid f7
  clear f1 f2 f3 f4 f5 f6 f7
  go_frame
  go_loopw [2, 3] (fun _ _ wr => ∃ (p : Nat → Prop) (left : Int → Bool) (cn M : Nat), Hid (ORan Tryz.prog 5 .u8 b r 5 impK left cn wr) ∧ Hid (Tab p 5 .u8 m M (turn3 screamE impK left) wr) ∧ Hid (M + cn ≤ 1005) ∧ Hid (News p wr) ∧ Hid (Below w.heap.size w wr) ∧ Hid (¬ p m) ∧ Hid (¬ p b) ∧ Hid (¬ p r) ∧ Hid (∀ c, p c → w.heap.size ≤ c)) (fun _ _ wr => wr.rangeLeft b r)
  case atStart => exact ⟨p', _, cnt, N, HR1, HT1, hid (by have := HC.out; have := HNN.out; omega), HN1, HB, Hp1, Hpb1, Hpr1, Hs1⟩
  case round =>
    clear HT1 HN1 HB HR1 HC HNN Hp1 Hpb1 Hpr1 Hs1
    obtain ⟨p, left, cn, M, HR, HT, HM, HN, HB, Hp, Hpb, Hpr, Hs⟩ := hrel
    go_wp2_with (first
      | (at_next; refine wpList_next_o _ rfl _ rfl 5 key5 Tryz.underlying5 _ _ _ _ _ _ rfl HR ?_ ?_)
      | fail)
    · intro hl
      have hl2 : left = fun _ => false := funext hl
      subst hl2
      clear hl HR
      have HMM := hid HM.out
      clear HM
      have HV : Hid (Lies p .nil .nilFunc wr) := hid rfl
      have HU : Hid (Lies p .nil .nilFunc wr) := hid rfl
      have hMM : M ≤ 1005 := by have := HMM.out; omega
      clear HMM Hpb Hpr Hmb Hbr
      go_wp2_with (first
          | ((with_reducible change wpList _ _ _ (⟨_, Op.insert _ _ _ _, _, _, _, _⟩ :: _) _ _); refine wpList_insert_tab _ rfl _ _ _ 51 rfl 5 77 key5 Tryz.underlying51 rfl HT (by unfold maxLen; omega) _ (keyOf_int_mk Tryz.underlying5 (by decide)) _ (by first | exact HV | exact HU | exact fnLies p _ _) Hp.out ?_; intro w9 ht hg; replace HT := ht; replace HN := hid (News.grown HN.out hg.out); replace HB := hid (grown_below HB.out hg.out (Nat.le_refl _) Hm.out); replace HV := hid (Lies.keep (same_grown hg.out Hp.out) _ _ HV.out); replace HU := hid (Lies.keep (same_grown hg.out Hp.out) _ _ HU.out); clear ht hg)
          | (at_mapUpdate; refine wpList_update_tab _ rfl _ _ _ 51 rfl 5 77 key5 Tryz.underlying51 rfl HT (by unfold maxLen; omega) _ (keyOf_int_mk Tryz.underlying5 (by decide)) _ (by first | exact HV | exact HU | exact fnLies p _ _) Hp.out ?_; intro w9 ht hg; replace HT := ht; replace HN := hid (News.grown HN.out hg.out); replace HB := hid (grown_below HB.out hg.out (Nat.le_refl _) Hm.out); replace HV := hid (Lies.keep (same_grown hg.out Hp.out) _ _ HV.out); replace HU := hid (Lies.keep (same_grown hg.out Hp.out) _ _ HU.out); clear ht hg)
          | ((with_reducible change wpList _ _ _ (⟨_, Op.mapEntry _ _ _, _, _, _, _⟩ :: _) _ _); refine wpList_entry_tab _ rfl _ _ 51 rfl 5 77 key5 Tryz.underlying51 zero77 rfl HT (by unfold maxLen; omega) _ (keyOf_int_mk Tryz.underlying5 (by decide)) Hp.out ?_; intro v0 st w9 ht he hg; replace HT := ht; replace HN := hid (News.grown HN.out hg.out); replace HB := hid (grown_below HB.out hg.out (Nat.le_refl _) Hm.out); replace HV := hid (Lies.keep (same_grown hg.out Hp.out) _ _ HV.out); replace HU := hid (Lies.keep (same_grown hg.out Hp.out) _ _ HU.out); clear ht hg)
          | ((with_reducible change wpList _ _ _ (⟨_, Op.entryStore _ _ _ _, _, _, _, _⟩ :: _) _ _); refine wpList_estore_tab _ rfl _ _ _ 51 rfl 5 77 key5 Tryz.underlying51 rfl HT (by unfold maxLen; omega) _ _ _ rfl (keyOf_int_mk Tryz.underlying5 (by decide)) he _ (by first | exact HV | exact HU | exact fnLies p _ _) Hp.out ?_; intro w9 ht hg; clear he; replace HT := ht; replace HN := hid (News.grown HN.out hg.out); replace HB := hid (grown_below HB.out hg.out (Nat.le_refl _) Hm.out); replace HV := hid (Lies.keep (same_grown hg.out Hp.out) _ _ HV.out); replace HU := hid (Lies.keep (same_grown hg.out Hp.out) _ _ HU.out); clear ht hg)
          | (go_at_call 86; refine (param_any p _ _ HN.out).mono ?_; rintro e9 w9 ⟨f9, c9, rfl, hl, hb⟩; replace HT := hid (Tab.keep HT.out hb); replace HN := hid (News.up HN.out hb); replace HB := hid (Below.step HB.out hb); replace HU := hid (Lies.keep (same_below hb p) _ _ HV.out); replace HV := hid hl; clear hl hb)
          | (go_at_call 120; refine (upTo_any p _ _ _ _ _ HN.out (by first | exact HV | exact fnLies p _ _)).mono ?_; rintro e9 w9 ⟨f9, c9, rfl, hl, hb⟩; replace HT := hid (Tab.keep HT.out hb); replace HN := hid (News.up HN.out hb); replace HB := hid (Below.step HB.out hb); replace HU := hid (Lies.keep (same_below hb p) _ _ HV.out); replace HV := hid hl; clear hl hb)
          | (go_at_call 85; refine (both_any p _ _ HN.out).mono ?_; rintro e9 w9 ⟨f9, c9, rfl, hl, hb⟩; replace HT := hid (Tab.keep HT.out hb); replace HN := hid (News.up HN.out hb); replace HB := hid (Below.step HB.out hb); replace HU := hid (Lies.keep (same_below hb p) _ _ HV.out); replace HV := hid hl; clear hl hb)
          | (go_at_call 87; refine (wholly_any p _ _ _ _ _ HN.out (by first | exact HV | exact fnLies p _ _)).mono ?_; rintro e9 w9 ⟨f9, c9, rfl, hl, hb⟩; replace HT := hid (Tab.keep HT.out hb); replace HN := hid (News.up HN.out hb); replace HB := hid (Below.step HB.out hb); replace HU := hid (Lies.keep (same_below hb p) _ _ HV.out); replace HV := hid hl; clear hl hb)
          | (go_at_call 88; refine (halved_any p _ _ _ _ _ HN.out (by first | exact HV | exact fnLies p _ _)).mono ?_; rintro e9 w9 ⟨f9, c9, rfl, hl, hb⟩; replace HT := hid (Tab.keep HT.out hb); replace HN := hid (News.up HN.out hb); replace HB := hid (Below.step HB.out hb); replace HU := hid (Lies.keep (same_below hb p) _ _ HV.out); replace HV := hid hl; clear hl hb)
          | (go_at_call 97; refine (byHigh_any p _ _ _ _ HN.out Hm2.out HT2.out).mono ?_; rintro e9 w9 ⟨f9, c9, rfl, hl, hb⟩; replace HT := hid (Tab.keep HT.out hb); replace HN := hid (News.up HN.out hb); replace HB := hid (Below.step HB.out hb); replace HU := hid (Lies.keep (same_below hb p) _ _ HV.out); replace HV := hid hl; clear hl hb)
          | (go_at_call 122; refine (special_any _).mono ?_; rintro e9 w9 ⟨m2, N2, p2, rfl, hm2, hs2, _, _, hN2, ht2, hb⟩; have HT2 := hid (Tab.wider (fun c hc => HN.out c (hs2 c hc)) ht2); have Hm2 : Hid (p m2) := hid (HN.out m2 hm2); clear hm2 hs2 hN2 ht2; replace HT := hid (Tab.keep HT.out hb); replace HN := hid (News.up HN.out hb); replace HB := hid (Below.step HB.out hb); replace HU := hid (Lies.keep (same_below hb p) _ _ HU.out); replace HV := hid (Lies.keep (same_below hb p) _ _ HV.out); clear hb)
          | fail)
      go_ret
      exact ⟨m, _, p, rfl, Hm, Hs, Hp, HN, by omega, HT, HB⟩
    · intro x v w1 cn1 hwx hx hl hr hlt hg hen
      obtain ⟨k, rfl, hne⟩ := impK_int hx.out
      have HNE := hid hne
      have HLQ := hid HR.out.left_eq
      have HL := hid hl.out
      have HX := hid hx.out
      have HW := hid hwx.out
      have HLT := hid hlt.out
      have HM1 := hid HM.out
      replace HT := hid (Tab.other HT.out hg.out Hpr.out (by have := Hmb.out; have := Hbr.out; omega))
      replace HN := hid (News.grown HN.out hg.out)
      replace HB := hid (grown_below HB.out hg.out (Nat.le_refl _) (by have := Hm.out; have := Hmb.out; have := Hbr.out; omega))
      replace HR := hr
      clear hwx hx hl hr hlt hg hne HM
      obtain ⟨q, g1, g2, g3, g4, g5, g6, g7, g8, g9, g10⟩ := phase5 HT.out Hp.out Hs.out HB.out
      have HRl := hid HR.out.lt
      have Hqb : Hid (¬ q b) := hid (g9 b (by have := HRl.out; have := Hbr.out; omega) Hpb.out)
      have Hqr : Hid (¬ q r) := hid (g9 r HRl.out Hpr.out)
      replace HR := hid (ORan.keep HR.out (below_grown (below1 w1 (.map #[] 0))) (by simp) (by simp))
      clear HT HN HB Hp Hs Hpb Hpr g9
      have HT := hid g1
      have Hp := hid g2
      have HN := hid g3
      have Hp2 := hid g4
      have Hs := hid g5
      have HT2 := hid g6
      have HB := hid g7
      have Hml := hid g8
      have Hwl := hid g10
      have HV : Hid (Lies q .nil .nilFunc (w1.alloc (.map #[] 0))) := hid rfl
      clear g1 g2 g3 g4 g5 g6 g7 g8 g10
      go_wp2_with (first
        | ((with_reducible change wpList _ _ _ (⟨_, Op.insert _ _ _ _, _, _, _, _⟩ :: _) _ _); refine wpList_insert_tab _ rfl _ _ _ 51 rfl 5 77 key5 Tryz.underlying51 rfl HT2 (by unfold maxLen; omega) _ (keyOf_int_mk Tryz.underlying5 (by decide)) _ (by first | exact HV | exact fnLies q _ _) Hp2.out ?_; intro w8 ht hg; replace HT2 := ht; replace HT := hid (Tab.other HT.out hg.out Hp2.out (by have := Hml.out; omega)); replace HN := hid (News.grown HN.out hg.out); replace HB := hid (grown_below HB.out hg.out (Nat.le_refl _) Hwl.out); replace HR := hid (ORan.keep HR.out hg.out (fun e => by injection e with e; have := HRl.out; have := Hbr.out; omega) (fun e => by injection e with e; have := HRl.out; omega)); replace HV := hid (Lies.keep (same_grown hg.out Hp2.out) _ _ HV.out); clear ht hg)
        | (go_at_call 85; refine (both_any q _ _ HN.out).mono ?_; rintro e8 w8 ⟨f8, c8, rfl, hl, hb⟩; replace HT := hid (Tab.keep HT.out hb); replace HT2 := hid (Tab.keep HT2.out hb); replace HN := hid (News.up HN.out hb); replace HB := hid (Below.step HB.out hb); replace HR := hid (ORan.keep HR.out (below_grown hb) (by simp) (by simp)); replace HV := hid hl; clear hl hb)
        | (at_lookup; refine wpList_lookup_tab _ rfl _ _ 51 rfl 5 key5 Tryz.underlying51 rfl HT2 _ (keyOf_int_mk Tryz.underlying5 HW.out) HNE.out ?_; intro fn cap HV2; clear HV; have HV := HV2; clear HV2)
        | (go_at_call 87; refine (wholly_any q _ _ _ _ _ HN.out HV.out).mono ?_; rintro e8 w8 ⟨f8, c8, rfl, hl, hb⟩; replace HT := hid (Tab.keep HT.out hb); replace HN := hid (News.up HN.out hb); replace HB := hid (Below.step HB.out hb); replace HR := hid (ORan.keep HR.out (below_grown hb) (by simp) (by simp)); replace HV := hid hl; clear hl hb HT2)
        | (at_mapUpdate; refine wpList_update_tab _ rfl _ _ _ 51 rfl 5 77 key5 Tryz.underlying51 rfl HT (by have := HM1.out; unfold maxLen; omega) _ (keyOf_int_mk Tryz.underlying5 HW.out) _ HV Hp.out ?_; intro w8 ht hg; go_frame)
        | fail)
      go_roundw
      case rel =>
        refine ⟨q, _, cn1, M + 1, hid (ORan.keep HR.out hg.out (fun e => by injection e with e; have := Hmb.out; omega) (fun e => by injection e with e; have := Hmb.out; have := Hbr.out; omega)), ?_, hid (by have := HM1.out; have := HLT.out; omega), hid (News.grown HN.out hg.out), hid (grown_below HB.out hg.out (Nat.le_refl _) Hm.out), Hp, Hqb, Hqr, Hs⟩
        rw [← turn3_step HX.out]
        exact ht
      case measure =>
        have h1 := (ORan.keep HR.out hg.out (fun e => by injection e with e; have := Hmb.out; omega) (fun e => by injection e with e; have := Hmb.out; have := Hbr.out; omega)).left_eq
        rw [h1, HLQ.out]
        exact HLT.out
end Go.Proofs.YtkpielgdfahanaaGreat
