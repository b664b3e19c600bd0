/- Every effect of the dialects, run as a function value. -/
import Derived.Test.YtkpielgdfahanaaGreatPFn2
/- Effects with captured numbers: param, both, lowHalf, wave, doubled, extra; low. -/
namespace Go.Proofs.YtkpielgdfahanaaGreat
open Go.RowKit Go.Maps
section
variable {b base : Nat} {d : Int} {s : St} {v : Value} {rc : Bool} {w : World}
theorem PAt.psetL (h : PAt b base d s v rc w) (x : Int) : PAt b base d (s.setL x) v rc (w.setCell ⟨b, 29, none⟩ (.int .i64 x)) :=
  h.turn (h.asks.at_.set (k := 29) (by omega) x) (grown_set _ _ _ _) (by rw [List.set_append_right _ _ (by rw [h.len]; omega), h.len]; rfl) h.len rfl
set_option maxHeartbeats 4000000 in
set_option maxRecDepth 100000 in
theorem pparam (n : Int) (c : Nat) (hc : w.cell? ⟨c, 0, none⟩ = some (.int .i64 n)) (h : PAt b base d s v rc w) (hs : s.Ok 15) : Calls Tryz.prog 131 #[.pointer (some ⟨b, 0, none⟩), .pointer (some ⟨c, 0, none⟩)] w (Ran b base d (s.ask n s.p 0) v w) := by
  have cp := h.cp
  have ch := h.ch
  have cl := h.cl
  have H := hid h
  have G := hid (Steps.refl b v w)
  have HS := hid hs
  have HO := hid hs.O
  obtain ⟨p0, p1⟩ : 0 ≤ s.p ∧ s.p ≤ 255 := hs.p
  obtain ⟨h0, h1⟩ : 0 ≤ s.h ∧ s.h ≤ 15 := hs.h
  obtain ⟨l0, l1⟩ : 0 ≤ s.l ∧ s.l ≤ 15 := hs.l
  clear h hs
  · go_enter Tryz.func131, Tryz.ntmps131
    go_wp2
    go_still_tail 6, (by kernel_rfl)
    change wpList _ _ _ _ _ w.drew
    replace H := hid H.out.drew
    go_wp2_with fail
    go_at_call 63
    refine (pask _ _ _ H.out (by have := HO.out; first | omega | (simp only [St.ask, List.length_append, List.length_cons, List.length_nil]; omega))).mono ?_
    rintro e w1 ⟨rfl, v1, r1, k, g⟩
    replace H := hid k
    replace G := hid (G.out.trans g.drewl)
    clear k g
    go_wp2
    go_end0
    exact ⟨rfl, _, _, H.out, G.out⟩
set_option maxHeartbeats 4000000 in
set_option maxRecDepth 100000 in
theorem pboth (n : Int) (c : Nat) (hc : w.cell? ⟨c, 0, none⟩ = some (.int .i64 n)) (h : PAt b base d s v rc w) (hs : s.Ok 15) : Calls Tryz.prog 130 #[.pointer (some ⟨b, 0, none⟩), .pointer (some ⟨c, 0, none⟩)] w (Ran b base d (s.ask n s.h s.l) v w) := by
  have cp := h.cp
  have ch := h.ch
  have cl := h.cl
  have H := hid h
  have G := hid (Steps.refl b v w)
  have HS := hid hs
  have HO := hid hs.O
  obtain ⟨p0, p1⟩ : 0 ≤ s.p ∧ s.p ≤ 255 := hs.p
  obtain ⟨h0, h1⟩ : 0 ≤ s.h ∧ s.h ≤ 15 := hs.h
  obtain ⟨l0, l1⟩ : 0 ≤ s.l ∧ s.l ≤ 15 := hs.l
  clear h hs
  · go_enter Tryz.func130, Tryz.ntmps130
    go_wp2
    go_still_tail 10, (by kernel_rfl)
    change wpList _ _ _ _ _ w.drew
    replace H := hid H.out.drew
    go_wp2_with fail
    go_at_call 63
    refine (pask _ _ _ H.out (by have := HO.out; first | omega | (simp only [St.ask, List.length_append, List.length_cons, List.length_nil]; omega))).mono ?_
    rintro e w1 ⟨rfl, v1, r1, k, g⟩
    replace H := hid k
    replace G := hid (G.out.trans g.drewl)
    clear k g
    go_wp2
    go_end0
    exact ⟨rfl, _, _, H.out, G.out⟩
set_option maxHeartbeats 4000000 in
set_option maxRecDepth 100000 in
theorem plowHalf (n : Int) (c : Nat) (hc : w.cell? ⟨c, 0, none⟩ = some (.int .i64 n)) (h : PAt b base d s v rc w) (hs : s.Ok 255) : Calls Tryz.prog 142 #[.pointer (some ⟨b, 0, none⟩), .pointer (some ⟨c, 0, none⟩)] w (Ran b base d (s.ask n s.l 0) v w) := by
  have cp := h.cp
  have ch := h.ch
  have cl := h.cl
  have H := hid h
  have G := hid (Steps.refl b v w)
  have HS := hid hs
  have HO := hid hs.O
  obtain ⟨p0, p1⟩ : 0 ≤ s.p ∧ s.p ≤ 255 := hs.p
  obtain ⟨h0, h1⟩ : 0 ≤ s.h ∧ s.h ≤ 15 := hs.h
  obtain ⟨l0, l1⟩ : 0 ≤ s.l ∧ s.l ≤ 255 := hs.l
  clear h hs
  · go_enter Tryz.func142, Tryz.ntmps142
    go_wp2
    go_still_tail 6, (by kernel_rfl)
    change wpList _ _ _ _ _ w.drew
    replace H := hid H.out.drew
    go_wp2_with fail
    go_at_call 63
    refine (pask _ _ _ H.out (by have := HO.out; first | omega | (simp only [St.ask, List.length_append, List.length_cons, List.length_nil]; omega))).mono ?_
    rintro e w1 ⟨rfl, v1, r1, k, g⟩
    replace H := hid k
    replace G := hid (G.out.trans g.drewl)
    clear k g
    go_wp2
    go_end0
    exact ⟨rfl, _, _, H.out, G.out⟩
set_option maxHeartbeats 4000000 in
set_option maxRecDepth 100000 in
theorem pwave (n : Int) (c : Nat) (hc : w.cell? ⟨c, 0, none⟩ = some (.int .i64 n)) (h : PAt b base d s v rc w) (hs : s.Ok 15) : Calls Tryz.prog 136 #[.pointer (some ⟨b, 0, none⟩), .pointer (some ⟨c, 0, none⟩)] w (Ran b base d (s.ask n (s.l % 4) 0) v w) := by
  have cp := h.cp
  have ch := h.ch
  have cl := h.cl
  have H := hid h
  have G := hid (Steps.refl b v w)
  have HS := hid hs
  have HO := hid hs.O
  obtain ⟨p0, p1⟩ : 0 ≤ s.p ∧ s.p ≤ 255 := hs.p
  obtain ⟨h0, h1⟩ : 0 ≤ s.h ∧ s.h ≤ 15 := hs.h
  obtain ⟨l0, l1⟩ : 0 ≤ s.l ∧ s.l ≤ 15 := hs.l
  clear h hs
  · go_enter Tryz.func136, Tryz.ntmps136
    go_wp2
    go_still_tail 7, (by kernel_rfl)
    change wpList _ _ _ _ _ w.drew
    replace H := hid H.out.drew
    go_wp2_with fail
    go_at_call 63
    refine (pask _ _ _ H.out (by have := HO.out; first | omega | (simp only [St.ask, List.length_append, List.length_cons, List.length_nil]; omega))).mono ?_
    rintro e w1 ⟨rfl, v1, r1, k, g⟩
    replace H := hid k
    replace G := hid (G.out.trans g.drewl)
    clear k g
    go_wp2
    go_end0
    exact ⟨rfl, _, _, H.out, G.out⟩
set_option maxHeartbeats 4000000 in
set_option maxRecDepth 100000 in
theorem pdoubled (n m : Int) (hm0 : 0 ≤ m) (hm1 : m ≤ 1000) (c c2 : Nat) (hc : w.cell? ⟨c, 0, none⟩ = some (.int .i64 n)) (hc2 : w.cell? ⟨c2, 0, none⟩ = some (.int .i64 m)) (h : PAt b base d s v rc w) (hs : s.Ok 15) : Calls Tryz.prog 138 #[.pointer (some ⟨b, 0, none⟩), .pointer (some ⟨c, 0, none⟩), .pointer (some ⟨c2, 0, none⟩)] w (Ran b base d (s.ask n (2 * min s.p m) 0) v w) := by
  have cp := h.cp
  have ch := h.ch
  have cl := h.cl
  have H := hid h
  have G := hid (Steps.refl b v w)
  have HS := hid hs
  have HO := hid hs.O
  obtain ⟨p0, p1⟩ : 0 ≤ s.p ∧ s.p ≤ 255 := hs.p
  obtain ⟨h0, h1⟩ : 0 ≤ s.h ∧ s.h ≤ 15 := hs.h
  obtain ⟨l0, l1⟩ : 0 ≤ s.l ∧ s.l ≤ 15 := hs.l
  by_cases hlt : m < s.p
  clear h hs
  · have HU : Hid (s.ask n (2 * min s.p m) 0 = s.ask n (2 * m) 0) := hid (by rw [show min s.p m = m by omega])
    go_enter Tryz.func138, Tryz.ntmps138
    go_wp2
    go_still_tail 9, (by kernel_rfl)
    change wpList _ _ _ _ _ w.drew
    replace H := hid H.out.drew
    go_wp2_with fail
    go_at_call 63
    refine (pask _ _ _ H.out (by have := HO.out; first | omega | (simp only [St.ask, List.length_append, List.length_cons, List.length_nil]; omega))).mono ?_
    rintro e w1 ⟨rfl, v1, r1, k, g⟩
    replace H := hid k
    replace G := hid (G.out.trans g.drewl)
    clear k g
    go_wp2
    go_end0
    rw [HU.out]
    exact ⟨rfl, _, _, H.out, G.out⟩
  · have HU : Hid (s.ask n (2 * min s.p m) 0 = s.ask n (2 * s.p) 0) := hid (by rw [show min s.p m = s.p by omega])
    go_enter Tryz.func138, Tryz.ntmps138
    go_wp2
    go_still_tail 9, (by kernel_rfl)
    change wpList _ _ _ _ _ w.drew
    replace H := hid H.out.drew
    go_wp2_with fail
    go_at_call 63
    refine (pask _ _ _ H.out (by have := HO.out; first | omega | (simp only [St.ask, List.length_append, List.length_cons, List.length_nil]; omega))).mono ?_
    rintro e w1 ⟨rfl, v1, r1, k, g⟩
    replace H := hid k
    replace G := hid (G.out.trans g.drewl)
    clear k g
    go_wp2
    go_end0
    rw [HU.out]
    exact ⟨rfl, _, _, H.out, G.out⟩
set_option maxHeartbeats 4000000 in
theorem plow (k : Nat) (hk : k < 24) (h : PAt b base d s v rc w) : Calls Tryz.prog 116 #[.pointer (some ⟨b, 0, none⟩), .int .i64 k] w (Ran b base d (s.low k) v w) := by
  have cl := h.cl
  have hk0 : (0 : Int) ≤ (k : Int) := by omega
  have hk1 : (k : Int) < 24 := by omega
  have H := hid h
  have HK := hid hk
  have HU : Hid (s.low k = (s.setL (s.lowL k)).keep k (s.lowL k)) := hid rfl
  by_cases hl : s.l = 0
  · have e : s.lowL k = s.slot k := if_pos hl
    rw [e] at HU
    rw [hl] at cl
    clear hl e h hk
    go_enter Tryz.func116, Tryz.ntmps116
    go_wp2_with fail
    go_at_call 77
    refine (pslot k HK.out H.out).mono ?_
    rintro e w1 ⟨rfl, k1, g1⟩
    have f29 := k1.asks.at_.free 29
    have c29 := k1.cl
    have K2 := hid (k1.psetL (s.slot k))
    have ck : (w1.setCell ⟨b, 29, none⟩ (.int .i64 (s.slot k))).cell? ⟨b, k, none⟩ = some (.int .i64 (s.M.getD k 0)) := K2.out.cM (k := k) (by have := HK.out; omega)
    have fk : (w1.setCell ⟨b, 29, none⟩ (.int .i64 (s.slot k))).frozen? ⟨b, k, none⟩ = false := K2.out.asks.at_.free k
    have G := hid (g1.grown (grown_set w1 b 29 (.int .i64 (s.slot k))))
    clear k1 g1 cl
    go_wp2
    go_region
    go_wp2
    go_end0
    rw [HU.out]
    exact ⟨rfl, _, _, (PAt.pkeep K2.out HK.out _).drew, G.out.grown (grown_drew (grown_set _ _ _ _))⟩
  · have e : s.lowL k = s.l := if_neg hl
    rw [e] at HU
    have tl : (s.l == 0) = false := beq_false hl
    have ck := h.cM (k := k) (by omega)
    have fk := h.asks.at_.free k
    clear hl e h hk
    go_enter Tryz.func116, Tryz.ntmps116
    go_wp2
    go_region
    go_wp2
    go_end0
    rw [HU.out]
    exact ⟨rfl, _, _, (PAt.pkeep (s := s.setL s.l) H.out HK.out _).drew, Steps.of_grown v (grown_drew (grown_set _ _ _ _))⟩
end
end Go.Proofs.YtkpielgdfahanaaGreat
namespace Go.Proofs.YtkpielgdfahanaaGreat
open Go.RowKit Go.Maps
/-- The blocks of p are none of the asking's. -/
def Apart (p : Nat → Prop) (b : Nat) (v : Value) (w : World) : Prop := ∀ c, p c → c ≠ b ∧ v.ownBlock ≠ some c ∧ c < w.heap.size
section
variable {p : Nat → Prop} {b base : Nat} {d : Int} {s : St} {v : Value} {rc : Bool} {w : World}
theorem Apart.same {v' : Value} {w' : World} (A : Apart p b v w) (g : Steps b v v' w w') : Same p w w' := fun c hc hl => g.block c hl (A c hc).1 (A c hc).2.1
theorem Apart.step {v' : Value} {w' : World} (A : Apart p b v w) (g : Steps b v v' w w') : Apart p b v' w' := fun c hc => by
  obtain ⟨h1, h2, h3⟩ := A c hc
  refine ⟨h1, fun e => ?_, Nat.lt_of_lt_of_le h3 g.size⟩
  rcases g.own with h | ⟨q, hq, h⟩
  · exact h2 (h ▸ e)
  · rw [h] at e; injection e with e; omega
theorem Steps.quiet (b : Nat) (v : Value) (w : World) (n : Nat) : Steps b v v w (w.drewN n) := ⟨rfl, rfl, rfl, Nat.le_refl _, fun _ _ _ _ => rfl, Or.inl rfl⟩
theorem Steps.drew1 (b : Nat) (v : Value) (w : World) : Steps b v v w w.drew := ⟨rfl, rfl, rfl, Nat.le_refl _, fun _ _ _ _ => rfl, Or.inl rfl⟩
/-- Function n with these captured variables, called with the asking, does e. -/
def Runs (b base : Nat) (d : Int) (s : St) (e : Eff) (v : Value) (w : World) (n : Nat) (cap : Array Value) : Prop :=
  (∀ (args : Array Value) (w : World), (callFunc n args).run Tryz.prog w = .ok (.enter n args) w) ∧ Calls Tryz.prog n (#[.pointer (some ⟨b, 0, none⟩)] ++ cap) w (Ran b base d (runE e s) v w)
set_option maxHeartbeats 4000000 in
theorem pwholly (k : Nat) (hk : k < 24) (e : Eff) (n : Nat) (cap : Array Value) (c c2 : Nat) (hc : One p w c (.int .i64 k)) (hc2 : One p w c2 (.func (.func n) #[] cap)) (A : Apart p b v w)
    (h : PAt b base d s v rc w) (hs : s.Ok 15)
    (hr : ∀ v' rc' w', PAt b base d (s.whole k) v' rc' w' → Steps b v v' w w' → Runs b base d (s.whole k) e v' w' n cap) :
    Calls Tryz.prog 132 #[.pointer (some ⟨b, 0, none⟩), .pointer (some ⟨c, 0, none⟩), .pointer (some ⟨c2, 0, none⟩)] w (Ran b base d (runE e (s.whole k)) v w) := by
  have cc := one_cell hc
  have H := hid h
  have HR := hid hr
  have HS := hid hs
  have HA := hid A
  have HK := hid hk
  have HC2 := hid hc2
  clear h hr hs A hk hc hc2
  go_enter Tryz.func132, Tryz.ntmps132
  go_wp2_with fail
  go_at_call 70
  refine (pwhole k HK.out H.out HS.out).mono ?_
  rintro e w1 ⟨rfl, v1, r1, h1, g1⟩
  have cc2 := one_cell (HC2.out.keep (HA.out.same g1))
  obtain ⟨ent, hrun⟩ := HR.out _ _ _ h1 g1
  have HRUN := hid hrun
  have H1 := hid h1
  have G1 := hid g1
  clear h1 g1 hrun cc
  go_wp2_with fail
  refine HRUN.out.mono ?_
  rintro e w2 ⟨rfl, v2, r2, h2, g2⟩
  have H2 := hid h2
  have G2 := hid (G1.out.trans g2)
  clear h2 g2 ent
  go_wp2
  go_end0
  exact ⟨rfl, _, _, H2.out, G2.out⟩
set_option maxHeartbeats 4000000 in
theorem phalved (k : Nat) (hk : k < 24) (e : Eff) (n : Nat) (cap : Array Value) (c c2 : Nat) (hc : One p w c (.int .i64 k)) (hc2 : One p w c2 (.func (.func n) #[] cap)) (A : Apart p b v w)
    (h : PAt b base d s v rc w) (hs : s.Ok 15)
    (hr : ∀ v' rc' w', PAt b base d (s.halves k) v' rc' w' → Steps b v v' w w' → Runs b base d (s.halves k) e v' w' n cap) :
    Calls Tryz.prog 133 #[.pointer (some ⟨b, 0, none⟩), .pointer (some ⟨c, 0, none⟩), .pointer (some ⟨c2, 0, none⟩)] w (Ran b base d (runE e (s.halves k)) v w) := by
  have cc := one_cell hc
  have H := hid h
  have HR := hid hr
  have HS := hid hs
  have HA := hid A
  have HK := hid hk
  have HC2 := hid hc2
  clear h hr hs A hk hc hc2
  go_enter Tryz.func133, Tryz.ntmps133
  go_wp2_with fail
  go_at_call 72
  refine (phalves k HK.out H.out HS.out).mono ?_
  rintro e w1 ⟨rfl, v1, r1, h1, g1⟩
  have cc2 := one_cell (HC2.out.keep (HA.out.same g1))
  obtain ⟨ent, hrun⟩ := HR.out _ _ _ h1 g1
  have HRUN := hid hrun
  have H1 := hid h1
  have G1 := hid g1
  clear h1 g1 hrun cc
  go_wp2_with fail
  refine HRUN.out.mono ?_
  rintro e w2 ⟨rfl, v2, r2, h2, g2⟩
  have H2 := hid h2
  have G2 := hid (G1.out.trans g2)
  clear h2 g2 ent
  go_wp2
  go_end0
  exact ⟨rfl, _, _, H2.out, G2.out⟩
set_option maxHeartbeats 4000000 in
theorem plowE (k : Nat) (hk : k < 24) (e : Eff) (n : Nat) (cap : Array Value) (c c2 : Nat) (hc : One p w c (.int .i64 k)) (hc2 : One p w c2 (.func (.func n) #[] cap)) (A : Apart p b v w)
    (h : PAt b base d s v rc w)
    (hr : ∀ v' rc' w', PAt b base d (s.low k) v' rc' w' → Steps b v v' w w' → Runs b base d (s.low k) e v' w' n cap) :
    Calls Tryz.prog 115 #[.pointer (some ⟨b, 0, none⟩), .pointer (some ⟨c, 0, none⟩), .pointer (some ⟨c2, 0, none⟩)] w (Ran b base d (runE e (s.low k)) v w) := by
  have cc := one_cell hc
  have H := hid h
  have HR := hid hr
  have HA := hid A
  have HK := hid hk
  have HC2 := hid hc2
  clear h hr A hk hc hc2
  go_enter Tryz.func115, Tryz.ntmps115
  go_wp2_with fail
  go_at_call 116
  refine (plow k HK.out H.out).mono ?_
  rintro e w1 ⟨rfl, v1, r1, h1, g1⟩
  have cc2 := one_cell (HC2.out.keep (HA.out.same g1))
  obtain ⟨ent, hrun⟩ := HR.out _ _ _ h1 g1
  have HRUN := hid hrun
  have H1 := hid h1
  have G1 := hid g1
  clear h1 g1 hrun cc
  go_wp2_with fail
  refine HRUN.out.mono ?_
  rintro e w2 ⟨rfl, v2, r2, h2, g2⟩
  have H2 := hid h2
  have G2 := hid (G1.out.trans g2)
  clear h2 g2 ent
  go_wp2
  go_end0
  exact ⟨rfl, _, _, H2.out, G2.out⟩
set_option maxHeartbeats 4000000 in
theorem punless0 (e : Eff) (n : Nat) (cap : Array Value) (c : Nat) (hc : One p w c (.func (.func n) #[] cap))
    (h : PAt b base d s v rc w) (hr : Runs b base d s e v w n cap) :
    Calls Tryz.prog 129 #[.pointer (some ⟨b, 0, none⟩), .pointer (some ⟨c, 0, none⟩)] w (Ran b base d (if s.p = 0 then s else runE e s) v w) := by
  have cc := one_cell hc
  have cp := h.cp
  have H := hid h
  obtain ⟨ent, hrun⟩ := hr
  have HRUN := hid hrun
  clear h hrun hc
  by_cases hp : s.p = 0
  · rw [if_pos hp]
    rw [hp] at cp
    clear hp ent
    go_enter Tryz.func129, Tryz.ntmps129
    go_wp2
    go_end0
    exact ⟨rfl, _, _, H.out, Steps.refl b v w⟩
  · rw [if_neg hp]
    have tp : (s.p != 0) = true := by simpa using hp
    clear hp
    go_enter Tryz.func129, Tryz.ntmps129
    go_wp2_with fail
    refine HRUN.out.mono ?_
    rintro e w2 ⟨rfl, v2, r2, h2, g2⟩
    have H2 := hid h2
    have G2 := hid g2
    clear h2 g2 ent
    go_wp2
    go_end0
    exact ⟨rfl, _, _, H2.out, G2.out⟩
set_option maxHeartbeats 4000000 in
theorem pupTo (m : Int) (e : Eff) (n : Nat) (cap : Array Value) (c c2 : Nat) (hc : One p w c (.int .i64 m)) (hc2 : One p w c2 (.func (.func n) #[] cap))
    (h : PAt b base d s v rc w) (hr : ∀ w' : World, PAt b base d s v rc w' → Steps b v v w w' → Runs b base d s e v w' n cap) :
    Calls Tryz.prog 139 #[.pointer (some ⟨b, 0, none⟩), .pointer (some ⟨c, 0, none⟩), .pointer (some ⟨c2, 0, none⟩)] w (Ran b base d (if s.p ≤ m then runE e s else s) v w) := by
  have cc := one_cell hc
  have cc2 := one_cell hc2
  have cp := h.cp
  have H := hid h
  have HR := hid hr
  clear h hr hc hc2
  by_cases hp : s.p ≤ m
  · rw [if_pos hp]
    go_enter Tryz.func139, Tryz.ntmps139
    go_wp2
    go_quiet (fail)
    obtain ⟨ent, hrun⟩ := HR.out _ (H.out.drewN nq) (Steps.quiet b v w nq)
    have HRUN := hid hrun
    clear hrun
    go_wp2_with fail
    refine HRUN.out.mono ?_
    rintro e w2 ⟨rfl, v2, r2, h2, g2⟩
    have H2 := hid h2
    have G2 := hid g2.drewN
    clear h2 g2 ent
    go_wp2
    go_end0
    exact ⟨rfl, _, _, H2.out, G2.out⟩
  · rw [if_neg hp]
    go_enter Tryz.func139, Tryz.ntmps139
    go_wp2
    go_quiet (fail)
    go_wp2
    go_end0
    exact ⟨rfl, _, _, H.out.drewN nq, Steps.quiet b v w nq⟩
set_option maxHeartbeats 4000000 in
theorem pextra (k : Nat) (hk : k < 24) (n : Int) (c c2 : Nat) (hc : One p w c (.int .i64 k)) (hc2 : One p w c2 (.int .i64 n)) (A : Apart p b v w)
    (h : PAt b base d s v rc w) (hs : s.Ok 15) :
    Calls Tryz.prog 119 #[.pointer (some ⟨b, 0, none⟩), .pointer (some ⟨c, 0, none⟩), .pointer (some ⟨c2, 0, none⟩)] w (Ran b base d ((s.low k).ask n (s.low k).l 0) v w) := by
  have cc := one_cell hc
  have H := hid h
  have HS := hid hs
  have HA := hid A
  have HK := hid hk
  have HC2 := hid hc2
  clear h hs A hk hc hc2
  go_enter Tryz.func119, Tryz.ntmps119
  go_wp2_with fail
  go_at_call 116
  refine (plow k HK.out H.out).mono ?_
  rintro e w1 ⟨rfl, v1, r1, h1, g1⟩
  have cc2 := one_cell (HC2.out.keep (HA.out.same g1))
  have cl := h1.cl
  have H1 := hid h1
  have G1 := hid g1
  clear h1 g1 cc
  go_wp2
  go_still_tail 6, (by kernel_rfl)
  change wpList _ _ _ _ _ w1.drew
  replace H1 := hid H1.out.drew
  go_wp2_with fail
  go_at_call 63
  refine (pask _ _ _ H1.out (by have := HS.out.O; show s.O.length ≤ 45; omega)).mono ?_
  rintro e w2 ⟨rfl, v2, r2, h2, g2⟩
  have H2 := hid h2
  have G2 := hid (G1.out.trans g2.drewl)
  clear h2 g2
  go_wp2
  go_end0
  exact ⟨rfl, _, _, H2.out, G2.out⟩
theorem Lies.clo {e : Eff} {x : Value} (h : Lies p e x w) (he : e ≠ .nil) : ∃ n cap, x = .func (.func n) #[] cap := by
  cases e with
  | nil => exact absurd rfl he
  | fn f => exact ⟨_, _, h⟩
  | param n => obtain ⟨c, h, _⟩ := h; exact ⟨_, _, h⟩
  | both n => obtain ⟨c, h, _⟩ := h; exact ⟨_, _, h⟩
  | lowHalf n => obtain ⟨c, h, _⟩ := h; exact ⟨_, _, h⟩
  | wave n => obtain ⟨c, h, _⟩ := h; exact ⟨_, _, h⟩
  | doubled n m => obtain ⟨c, d, h, _⟩ := h; exact ⟨_, _, h⟩
  | extra n m => obtain ⟨c, d, h, _⟩ := h; exact ⟨_, _, h⟩
  | unless0 e => obtain ⟨c, v', h, _⟩ := h; exact ⟨_, _, h⟩
  | wholly k e => obtain ⟨c, d, v', h, _⟩ := h; exact ⟨_, _, h⟩
  | halved k e => obtain ⟨c, d, v', h, _⟩ := h; exact ⟨_, _, h⟩
  | low k e => obtain ⟨c, d, v', h, _⟩ := h; exact ⟨_, _, h⟩
  | upTo m e => obtain ⟨c, d, v', h, _⟩ := h; exact ⟨_, _, h⟩
  | byHigh g => obtain ⟨c, b, n, gv, h, _⟩ := h; exact ⟨_, _, h⟩
set_option maxHeartbeats 4000000 in
theorem pbyHigh (g : Int → Eff) (gv : Int → Value) (c m N : Nat) (hc : One p w c (.map (some m))) (ht : FnM m N gv w)
    (h : PAt b base d s v rc w) (hs : s.Ok 15) (hl : Lies p (g s.h) (gv s.h) w)
    (hr : g s.h ≠ .nil → ∀ n cap, gv s.h = .func (.func n) #[] cap → ∀ w', PAt b base d s v rc w' → Steps b v v w w' → Runs b base d s (g s.h) v w' n cap) :
    Calls Tryz.prog 134 #[.pointer (some ⟨b, 0, none⟩), .pointer (some ⟨c, 0, none⟩)] w (Ran b base d (runE (g s.h) s) v w) := by
  have cc := one_cell hc
  have ch := h.ch
  have H := hid h
  have HR := hid hr
  have HT := hid ht
  have HL := hid hl
  have HWF : Hid ((Lit.int .i64 s.h).wf = true) := hid (WalkArith.wf_i64 (by have := hs.h; omega))
  clear h hr hc ht hl hs
  have hnn : ∀ (n : Nat) (cap : Array Value) (w : World), (binOp .neq 77 (.func (.func n) #[] cap) .nilFunc).run Tryz.prog w = .ok (.bool true) w := fun _ _ _ => by rfl
  have hn0 : ∀ (w : World), (binOp .neq 77 .nilFunc .nilFunc).run Tryz.prog w = .ok (.bool false) w := fun _ => by rfl
  by_cases hg : g s.h = .nil
  · have e1 := HL.out
    rw [hg] at e1
    have EV : Hid (gv s.h = .nilFunc) := hid e1
    rw [hg]
    have hlk : (Instr.lookup 87 (.map (some m)) (.int .i64 s.h) false).run Tryz.prog w.drew = .ok (gv s.h) w.drew := FnMap.look (HT.out.kept (w' := w.drew) rfl) key3 Tryz.underlying87 (zero77 _) (keyOf_int_mk Tryz.underlying3 HWF.out)
    rw [EV.out] at hlk
    clear e1 hg hnn
    go_enter Tryz.func134, Tryz.ntmps134
    go_wp2
    go_still_tail 5, (by kernel_rfl)
    change wpList _ _ _ _ _ w.drew
    go_wp2_with fail
    go_end0
    exact ⟨rfl, _, _, H.out.drew, Steps.drew1 b v w⟩
  · obtain ⟨n, cap, e1⟩ := HL.out.clo hg
    obtain ⟨ent, hrun⟩ := HR.out hg n cap e1 w.drew H.out.drew (Steps.drew1 b v w)
    have EV := hid e1
    have HRUN := hid hrun
    have hlk : (Instr.lookup 87 (.map (some m)) (.int .i64 s.h) false).run Tryz.prog w.drew = .ok (gv s.h) w.drew := FnMap.look (HT.out.kept (w' := w.drew) rfl) key3 Tryz.underlying87 (zero77 _) (keyOf_int_mk Tryz.underlying3 HWF.out)
    rw [EV.out] at hlk
    clear e1 hg hn0 hrun
    go_enter Tryz.func134, Tryz.ntmps134
    go_wp2
    go_still_tail 5, (by kernel_rfl)
    change wpList _ _ _ _ _ w.drew
    go_wp2_with fail
    refine HRUN.out.mono ?_
    rintro e w2 ⟨rfl, v2, r2, h2, g2⟩
    have H2 := hid h2
    have G2 := hid g2.drewl
    clear h2 g2 ent hnn
    go_wp2
    go_end0
    exact ⟨rfl, _, _, H2.out, G2.out⟩
theorem enter89 (args : Array Value) (w : World) : (callFunc 89 args).run Tryz.prog w = .ok (.enter 89 args) w := by kernel_rfl
theorem enter90 (args : Array Value) (w : World) : (callFunc 90 args).run Tryz.prog w = .ok (.enter 90 args) w := by kernel_rfl
theorem enter92 (args : Array Value) (w : World) : (callFunc 92 args).run Tryz.prog w = .ok (.enter 92 args) w := by kernel_rfl
theorem enter94 (args : Array Value) (w : World) : (callFunc 94 args).run Tryz.prog w = .ok (.enter 94 args) w := by kernel_rfl
theorem enter95 (args : Array Value) (w : World) : (callFunc 95 args).run Tryz.prog w = .ok (.enter 95 args) w := by kernel_rfl
theorem enter96 (args : Array Value) (w : World) : (callFunc 96 args).run Tryz.prog w = .ok (.enter 96 args) w := by kernel_rfl
theorem enter99 (args : Array Value) (w : World) : (callFunc 99 args).run Tryz.prog w = .ok (.enter 99 args) w := by kernel_rfl
theorem enter101 (args : Array Value) (w : World) : (callFunc 101 args).run Tryz.prog w = .ok (.enter 101 args) w := by kernel_rfl
theorem enter102 (args : Array Value) (w : World) : (callFunc 102 args).run Tryz.prog w = .ok (.enter 102 args) w := by kernel_rfl
theorem enter104 (args : Array Value) (w : World) : (callFunc 104 args).run Tryz.prog w = .ok (.enter 104 args) w := by kernel_rfl
theorem enter105 (args : Array Value) (w : World) : (callFunc 105 args).run Tryz.prog w = .ok (.enter 105 args) w := by kernel_rfl
theorem enter106 (args : Array Value) (w : World) : (callFunc 106 args).run Tryz.prog w = .ok (.enter 106 args) w := by kernel_rfl
theorem enter107 (args : Array Value) (w : World) : (callFunc 107 args).run Tryz.prog w = .ok (.enter 107 args) w := by kernel_rfl
theorem enter108 (args : Array Value) (w : World) : (callFunc 108 args).run Tryz.prog w = .ok (.enter 108 args) w := by kernel_rfl
theorem enter109 (args : Array Value) (w : World) : (callFunc 109 args).run Tryz.prog w = .ok (.enter 109 args) w := by kernel_rfl
theorem enter110 (args : Array Value) (w : World) : (callFunc 110 args).run Tryz.prog w = .ok (.enter 110 args) w := by kernel_rfl
theorem enter111 (args : Array Value) (w : World) : (callFunc 111 args).run Tryz.prog w = .ok (.enter 111 args) w := by kernel_rfl
theorem enter112 (args : Array Value) (w : World) : (callFunc 112 args).run Tryz.prog w = .ok (.enter 112 args) w := by kernel_rfl
theorem enter113 (args : Array Value) (w : World) : (callFunc 113 args).run Tryz.prog w = .ok (.enter 113 args) w := by kernel_rfl
theorem enter117 (args : Array Value) (w : World) : (callFunc 117 args).run Tryz.prog w = .ok (.enter 117 args) w := by kernel_rfl
theorem enter121 (args : Array Value) (w : World) : (callFunc 121 args).run Tryz.prog w = .ok (.enter 121 args) w := by kernel_rfl
theorem enter123 (args : Array Value) (w : World) : (callFunc 123 args).run Tryz.prog w = .ok (.enter 123 args) w := by kernel_rfl
theorem enter124 (args : Array Value) (w : World) : (callFunc 124 args).run Tryz.prog w = .ok (.enter 124 args) w := by kernel_rfl
theorem enter125 (args : Array Value) (w : World) : (callFunc 125 args).run Tryz.prog w = .ok (.enter 125 args) w := by kernel_rfl
theorem enter127 (args : Array Value) (w : World) : (callFunc 127 args).run Tryz.prog w = .ok (.enter 127 args) w := by kernel_rfl
theorem enter128 (args : Array Value) (w : World) : (callFunc 128 args).run Tryz.prog w = .ok (.enter 128 args) w := by kernel_rfl
theorem enter135 (args : Array Value) (w : World) : (callFunc 135 args).run Tryz.prog w = .ok (.enter 135 args) w := by kernel_rfl
theorem enter140 (args : Array Value) (w : World) : (callFunc 140 args).run Tryz.prog w = .ok (.enter 140 args) w := by kernel_rfl
theorem enter141 (args : Array Value) (w : World) : (callFunc 141 args).run Tryz.prog w = .ok (.enter 141 args) w := by kernel_rfl
theorem enter131 (args : Array Value) (w : World) : (callFunc 131 args).run Tryz.prog w = .ok (.enter 131 args) w := by kernel_rfl
theorem enter130 (args : Array Value) (w : World) : (callFunc 130 args).run Tryz.prog w = .ok (.enter 130 args) w := by kernel_rfl
theorem enter142 (args : Array Value) (w : World) : (callFunc 142 args).run Tryz.prog w = .ok (.enter 142 args) w := by kernel_rfl
theorem enter136 (args : Array Value) (w : World) : (callFunc 136 args).run Tryz.prog w = .ok (.enter 136 args) w := by kernel_rfl
theorem enter138 (args : Array Value) (w : World) : (callFunc 138 args).run Tryz.prog w = .ok (.enter 138 args) w := by kernel_rfl
theorem enter119 (args : Array Value) (w : World) : (callFunc 119 args).run Tryz.prog w = .ok (.enter 119 args) w := by kernel_rfl
theorem enter129 (args : Array Value) (w : World) : (callFunc 129 args).run Tryz.prog w = .ok (.enter 129 args) w := by kernel_rfl
theorem enter132 (args : Array Value) (w : World) : (callFunc 132 args).run Tryz.prog w = .ok (.enter 132 args) w := by kernel_rfl
theorem enter133 (args : Array Value) (w : World) : (callFunc 133 args).run Tryz.prog w = .ok (.enter 133 args) w := by kernel_rfl
theorem enter115 (args : Array Value) (w : World) : (callFunc 115 args).run Tryz.prog w = .ok (.enter 115 args) w := by kernel_rfl
theorem enter139 (args : Array Value) (w : World) : (callFunc 139 args).run Tryz.prog w = .ok (.enter 139 args) w := by kernel_rfl
theorem enter134 (args : Array Value) (w : World) : (callFunc 134 args).run Tryz.prog w = .ok (.enter 134 args) w := by kernel_rfl
theorem pfn_any (f : Nat) (hf : IsFn f) (h : PAt b base d s v rc w) (hs : s.Ok 15) : Runs b base d s (.fn f) v w f #[] := by
  unfold IsFn at hf
  simp only [List.mem_cons, List.not_mem_nil, or_false] at hf
  rcases hf with rfl | rfl | rfl | rfl | rfl | rfl | rfl | rfl | rfl | rfl | rfl | rfl | rfl | rfl | rfl | rfl | rfl | rfl | rfl | rfl | rfl | rfl | rfl | rfl | rfl | rfl | rfl | rfl | rfl
  · exact ⟨enter89, pfn89 h hs⟩
  · exact ⟨enter90, pfn90 h hs⟩
  · exact ⟨enter92, pfn92 h hs⟩
  · exact ⟨enter94, pfn94 h hs⟩
  · exact ⟨enter95, pfn95 h hs⟩
  · exact ⟨enter96, pfn96 h hs⟩
  · exact ⟨enter99, pfn99 h hs⟩
  · exact ⟨enter101, pfn101 h hs⟩
  · exact ⟨enter102, pfn102 h hs⟩
  · exact ⟨enter104, pfn104 h hs⟩
  · exact ⟨enter105, pslide (O := s.O) h hs (by have := hs.O; omega)⟩
  · exact ⟨enter106, pfn106 h hs⟩
  · exact ⟨enter107, pfn107 h hs⟩
  · exact ⟨enter108, pfn108 h hs⟩
  · exact ⟨enter109, pfn109 h hs⟩
  · exact ⟨enter110, pfn110 h hs⟩
  · exact ⟨enter111, pfn111 h hs⟩
  · exact ⟨enter112, pfn112 h hs⟩
  · exact ⟨enter113, pfn113 h hs⟩
  · exact ⟨enter117, pfn117 h hs⟩
  · exact ⟨enter121, pfn121 h hs⟩
  · exact ⟨enter123, pfn123 h hs⟩
  · exact ⟨enter124, pfn124 h hs⟩
  · exact ⟨enter125, pfn125 h hs⟩
  · exact ⟨enter127, pfn127 h hs⟩
  · exact ⟨enter128, pfn128 h hs⟩
  · exact ⟨enter135, pfn135 h hs⟩
  · exact ⟨enter140, pfn140 h hs⟩
  · exact ⟨enter141, pfn141 h hs⟩
theorem run_eff : ∀ (e : Eff) (s : St) (v : Value) (rc : Bool) (w : World) (n : Nat) (cap : Array Value), Wf e → Lies p e (.func (.func n) #[] cap) w → Apart p b v w → PAt b base d s v rc w → s.Ok 15 → Runs b base d s e v w n cap := by
  intro e
  induction e with
  | nil => intro s v rc w n cap _ hl; cases hl
  | fn f =>
    intro s v rc w n cap hw hl _ h hs
    cases hl
    exact pfn_any f hw h hs
  | param k =>
    intro s v rc w n cap _ hl _ h hs
    obtain ⟨c, e1, h1⟩ := hl
    cases e1
    exact ⟨enter131, pparam k c (one_cell h1) h hs⟩
  | both k =>
    intro s v rc w n cap _ hl _ h hs
    obtain ⟨c, e1, h1⟩ := hl
    cases e1
    exact ⟨enter130, pboth k c (one_cell h1) h hs⟩
  | lowHalf k =>
    intro s v rc w n cap _ hl _ h hs
    obtain ⟨c, e1, h1⟩ := hl
    cases e1
    exact ⟨enter142, plowHalf k c (one_cell h1) h (hs.more (by decide))⟩
  | wave k =>
    intro s v rc w n cap _ hl _ h hs
    obtain ⟨c, e1, h1⟩ := hl
    cases e1
    exact ⟨enter136, pwave k c (one_cell h1) h hs⟩
  | doubled k m =>
    intro s v rc w n cap hw hl _ h hs
    obtain ⟨c, c2, e1, h1, h2⟩ := hl
    cases e1
    exact ⟨enter138, pdoubled k m hw.1 hw.2 c c2 (one_cell h1) (one_cell h2) h hs⟩
  | extra k m =>
    intro s v rc w n cap hw hl A h hs
    obtain ⟨c, c2, e1, h1, h2⟩ := hl
    cases e1
    obtain ⟨k', rfl⟩ := Int.eq_ofNat_of_zero_le hw.1
    exact ⟨enter119, pextra k' (by have := hw.2; omega) m c c2 h1 h2 A h hs⟩
  | unless0 e ih =>
    intro s v rc w n cap hw hl A h hs
    obtain ⟨c, x, e1, h1, h2⟩ := hl
    cases e1
    obtain ⟨m, cap', rfl⟩ := h2.clo hw.1
    exact ⟨enter129, punless0 e m cap' c h1 h (ih s v rc w m cap' hw.2 h2 A h hs)⟩
  | wholly k e ih =>
    intro s v rc w n cap hw hl A h hs
    obtain ⟨c, c2, x, e1, h1, h2, h3⟩ := hl
    cases e1
    obtain ⟨m, cap', rfl⟩ := h3.clo hw.2.2.1
    obtain ⟨k', rfl⟩ := Int.eq_ofNat_of_zero_le hw.1
    have hk : k' < 24 := by have := hw.2.1; omega
    exact ⟨enter132, pwholly k' hk e m cap' c c2 h1 h2 A h hs fun v' rc' w' h' g' => ih _ v' rc' w' m cap' hw.2.2.2 (Lies.keep (A.same g') _ _ h3) (A.step g') h' (hs.whole hk)⟩
  | halved k e ih =>
    intro s v rc w n cap hw hl A h hs
    obtain ⟨c, c2, x, e1, h1, h2, h3⟩ := hl
    cases e1
    obtain ⟨m, cap', rfl⟩ := h3.clo hw.2.2.1
    obtain ⟨k', rfl⟩ := Int.eq_ofNat_of_zero_le hw.1
    have hk : k' < 24 := by have := hw.2.1; omega
    exact ⟨enter133, phalved k' hk e m cap' c c2 h1 h2 A h hs fun v' rc' w' h' g' => ih _ v' rc' w' m cap' hw.2.2.2 (Lies.keep (A.same g') _ _ h3) (A.step g') h' (hs.halves hk)⟩
  | low k e _ =>
    intro s v rc w n cap hw hl A h hs
    obtain ⟨c, c2, x, e1, h1, h2, h3⟩ := hl
    cases e1
    obtain ⟨hk0, hk1, m, rfl⟩ := hw
    obtain ⟨c3, rfl, h4⟩ := h3
    obtain ⟨k', rfl⟩ := Int.eq_ofNat_of_zero_le hk0
    have hk : k' < 24 := by omega
    exact ⟨enter115, plowE k' hk (.lowHalf m) 142 #[ptr c3] c c2 h1 h2 A h fun v' rc' w' h' g' => ⟨enter142, plowHalf m c3 (one_cell (h4.keep (A.same g'))) h' (hs.low hk)⟩⟩
  | upTo m e ih =>
    intro s v rc w n cap hw hl A h hs
    obtain ⟨c, c2, x, e1, h1, h2, h3⟩ := hl
    cases e1
    obtain ⟨k, cap', rfl⟩ := h3.clo hw.1
    exact ⟨enter139, pupTo m e k cap' c c2 h1 h2 h fun w' h' g' => ih s v rc w' k cap' hw.2 (Lies.keep (A.same g') _ _ h3) (A.step g') h' hs⟩
  | byHigh g ih =>
    intro s v rc w n cap hw hl A h hs
    obtain ⟨c, m, N, gv, e1, h1, _, h3, h4⟩ := hl
    cases e1
    exact ⟨enter134, pbyHigh g gv c m N h1 h3 h hs (h4 s.h) fun hg k cap' e2 w' h' g' => ih s.h s v rc w' k cap' (hw s.h) (e2 ▸ Lies.keep (A.same g') _ _ (h4 s.h)) (A.step g') h' hs⟩
end
end Go.Proofs.YtkpielgdfahanaaGreat
