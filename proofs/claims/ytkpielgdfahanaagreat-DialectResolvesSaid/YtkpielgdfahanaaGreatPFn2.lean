/- The functions of effects that go through others: slide, pitch, recalled, low. -/
import Derived.Test.YtkpielgdfahanaaGreatPSt
import Derived.Deep.QuietTactic
import Derived.BigQuiet
import Derived.StillTailTactics
/- The program's asking: halves and low. -/
namespace Go.Proofs.YtkpielgdfahanaaGreat
open Go.RowKit Go.Maps
section
variable {b base : Nat} {d : Int} {s : St} {v : Value} {rc : Bool} {w : World}
theorem PAt.pkeep (h : PAt b base d s v rc w) {k : Nat} (hk : k < 24) (x : Int) : PAt b base d (s.keep k x) v rc (w.setCell ⟨b, k, none⟩ (.int .i64 x)) :=
  h.turn (h.asks.at_.set (k := k) (by omega) x) (grown_set _ _ _ _) (by rw [List.set_append_left _ _ (by rw [h.len]; omega)]; rfl) (by simp [St.keep, h.len]) rfl
set_option maxHeartbeats 4000000 in
theorem phalves (k : Nat) (hk : k < 24) (h : PAt b base d s v rc w) (hs : s.Ok 15) : Calls Tryz.prog 72 #[.pointer (some ⟨b, 0, none⟩), .int .i64 k] w (Ran b base d (s.halves k) v w) := by
  have ch := h.ch
  have cl := h.cl
  have hk0 : (0 : Int) ≤ (k : Int) := by omega
  have hk1 : (k : Int) < 24 := by omega
  have H := hid h
  have G := hid (Steps.refl b v w)
  have HK := hid hk
  have HH := hid (hs.half hk)
  obtain ⟨s1, s2⟩ := hs.slots k hk
  clear h hs hk
  by_cases hh : s.h = 0 <;> by_cases hl : s.l = 0
  · -- 1 1
    have HQ := HH.out
    have HU : Hid (s.halves k = (s.put (16 * s.halfH k + s.halfL k)).keep k (16 * s.halfH k + s.halfL k)) := hid rfl
    have eH : s.halfH k = s.slot k / 16 := if_pos hh
    have eL : s.halfL k = s.slot k % 16 := if_pos hl
    rw [eH, eL] at HU HQ
    clear eH eL HH
    rw [hh] at ch; clear hh
    rw [hl] at cl; clear hl
    obtain ⟨q1, q2, q3, q4⟩ := HQ
    go_enter Tryz.func72, Tryz.ntmps72
    go_wp2
    go_quiet (fail)
    replace H := hid (H.out.drewN nq)
    go_wp2_with fail
    go_at_call 77
    refine (pslot k HK.out H.out).mono ?_
    rintro e w1 ⟨rfl, h1, g1⟩
    replace H := hid h1
    replace G := hid (G.out.trans g1.drewN)
    clear h1 g1
    go_wp2_with fail
    go_at_call 77
    refine (pslot k HK.out H.out).mono ?_
    rintro e w2 ⟨rfl, h1, g1⟩
    replace H := hid h1
    replace G := hid (G.out.trans g1)
    clear h1 g1
    go_wp2_with fail
    go_at_call 53
    refine (pput _ H.out (by omega) (by omega)).mono ?_
    rintro e w3 ⟨rfl, v', rc', h1, g1⟩
    have c27 := h1.cp
    have ck := h1.cM (k := k) (by have := HK.out; omega)
    have fk := h1.asks.at_.free k
    have H1 := hid h1
    replace G := hid (G.out.trans g1)
    clear h1 g1 ch cl
    go_wp2
    go_region
    go_wp2
    go_end0
    rw [HU.out]
    exact ⟨rfl, v', rc', (PAt.pkeep H1.out HK.out _).drew, G.out.grown (grown_drew (grown_set _ _ _ _))⟩
  · -- 1 0
    have HQ := HH.out
    have HU : Hid (s.halves k = (s.put (16 * s.halfH k + s.halfL k)).keep k (16 * s.halfH k + s.halfL k)) := hid rfl
    have eH : s.halfH k = s.slot k / 16 := if_pos hh
    have eL : s.halfL k = s.l := if_neg hl
    rw [eH, eL] at HU HQ
    clear eH eL HH
    rw [hh] at ch; clear hh
    have tl : (s.l == 0) = false := beq_false hl; clear hl
    obtain ⟨q1, q2, q3, q4⟩ := HQ
    go_enter Tryz.func72, Tryz.ntmps72
    go_wp2
    go_quiet (fail)
    replace H := hid (H.out.drewN nq)
    go_wp2_with fail
    go_at_call 77
    refine (pslot k HK.out H.out).mono ?_
    rintro e w1 ⟨rfl, h1, g1⟩
    replace H := hid h1
    replace G := hid (G.out.trans g1.drewN)
    clear h1 g1
    go_wp2_with fail
    go_at_call 53
    refine (pput _ H.out (by omega) (by omega)).mono ?_
    rintro e w3 ⟨rfl, v', rc', h1, g1⟩
    have c27 := h1.cp
    have ck := h1.cM (k := k) (by have := HK.out; omega)
    have fk := h1.asks.at_.free k
    have H1 := hid h1
    replace G := hid (G.out.trans g1)
    clear h1 g1 ch cl
    go_wp2
    go_region
    go_wp2
    go_end0
    rw [HU.out]
    exact ⟨rfl, v', rc', (PAt.pkeep H1.out HK.out _).drew, G.out.grown (grown_drew (grown_set _ _ _ _))⟩
  · -- 0 1
    have HQ := HH.out
    have HU : Hid (s.halves k = (s.put (16 * s.halfH k + s.halfL k)).keep k (16 * s.halfH k + s.halfL k)) := hid rfl
    have eH : s.halfH k = s.h := if_neg hh
    have eL : s.halfL k = s.slot k % 16 := if_pos hl
    rw [eH, eL] at HU HQ
    clear eH eL HH
    have th : (s.h == 0) = false := beq_false hh; clear hh
    rw [hl] at cl; clear hl
    obtain ⟨q1, q2, q3, q4⟩ := HQ
    go_enter Tryz.func72, Tryz.ntmps72
    go_wp2
    go_quiet (fail)
    replace H := hid (H.out.drewN nq)
    go_wp2_with fail
    go_at_call 77
    refine (pslot k HK.out H.out).mono ?_
    rintro e w2 ⟨rfl, h1, g1⟩
    replace H := hid h1
    replace G := hid (G.out.trans g1.drewN)
    clear h1 g1
    go_wp2_with fail
    go_at_call 53
    refine (pput _ H.out (by omega) (by omega)).mono ?_
    rintro e w3 ⟨rfl, v', rc', h1, g1⟩
    have c27 := h1.cp
    have ck := h1.cM (k := k) (by have := HK.out; omega)
    have fk := h1.asks.at_.free k
    have H1 := hid h1
    replace G := hid (G.out.trans g1)
    clear h1 g1 ch cl
    go_wp2
    go_region
    go_wp2
    go_end0
    rw [HU.out]
    exact ⟨rfl, v', rc', (PAt.pkeep H1.out HK.out _).drew, G.out.grown (grown_drew (grown_set _ _ _ _))⟩
  · -- 0 0
    have HQ := HH.out
    have HU : Hid (s.halves k = (s.put (16 * s.halfH k + s.halfL k)).keep k (16 * s.halfH k + s.halfL k)) := hid rfl
    have eH : s.halfH k = s.h := if_neg hh
    have eL : s.halfL k = s.l := if_neg hl
    rw [eH, eL] at HU HQ
    clear eH eL HH
    have th : (s.h == 0) = false := beq_false hh; clear hh
    have tl : (s.l == 0) = false := beq_false hl; clear hl
    obtain ⟨q1, q2, q3, q4⟩ := HQ
    go_enter Tryz.func72, Tryz.ntmps72
    go_wp2
    go_quiet (fail)
    replace H := hid (H.out.drewN nq)
    go_wp2_with fail
    go_at_call 53
    refine (pput _ H.out (by omega) (by omega)).mono ?_
    rintro e w3 ⟨rfl, v', rc', h1, g1⟩
    have c27 := h1.cp
    have ck := h1.cM (k := k) (by have := HK.out; omega)
    have fk := h1.asks.at_.free k
    have H1 := hid h1
    replace G := hid (G.out.trans g1.drewN)
    clear h1 g1 ch cl
    go_wp2
    go_region
    go_wp2
    go_end0
    rw [HU.out]
    exact ⟨rfl, v', rc', (PAt.pkeep H1.out HK.out _).drew, G.out.grown (grown_drew (grown_set _ _ _ _))⟩
end
end Go.Proofs.YtkpielgdfahanaaGreat
/- The small functions of effects that ask for one operation. -/
namespace Go.Proofs.YtkpielgdfahanaaGreat
open Go.RowKit Go.Maps
section
variable {b base : Nat} {d : Int} {s : St} {v : Value} {rc : Bool} {w : World}

theorem ppan (x : Int) (w : World) (h0 : 0 ≤ x) (h1 : x ≤ 100000) : Calls Tryz.prog 93 #[.int .i64 x] w fun e w' => e = .returned (.int .i64 (panV x)) ∧ w = w' := by
  have HU : Hid (panV x = x + x / 128) := hid rfl
  go_enter Tryz.func93, Tryz.ntmps93
  go_wp2
  go_ret
  exact ⟨by rw [HU.out]; rfl, rfl⟩
set_option maxHeartbeats 4000000 in
set_option maxRecDepth 100000 in
theorem pfn92 (h : PAt b base d s v rc w) (hs : s.Ok 15) : Calls Tryz.prog 92 #[.pointer (some ⟨b, 0, none⟩)] w (Ran b base d (fnE 92 s) v w) := by
  have cp := h.cp
  have ch := h.ch
  have cl := h.cl
  have H := hid h
  have G := hid (Steps.refl b v w)
  have HS := hid hs
  have HO := hid hs.O
  obtain ⟨p0, p1⟩ : 0 ≤ s.p ∧ s.p ≤ 255 := hs.p
  obtain ⟨h0, h1⟩ : 0 ≤ s.h ∧ s.h ≤ 15 := hs.h
  obtain ⟨l0, l1⟩ : 0 ≤ s.l ∧ s.l ≤ 15 := hs.l
  clear h hs
  · have HU : Hid (fnE 92 s = s.ask 16 (panV s.p) 0) := hid (by rfl)
    go_enter Tryz.func92, Tryz.ntmps92
    go_wp2_with fail
    go_at_call 93
    refine (ppan _ _ (by omega) (by omega)).mono ?_
    rintro e w1 ⟨rfl, rfl⟩
    go_wp2_with fail
    go_at_call 63
    refine (pask _ _ _ H.out (by have := HO.out; first | omega | (simp only [St.ask, List.length_append, List.length_cons, List.length_nil]; omega))).mono ?_
    rintro e w1 ⟨rfl, v1, r1, k, g⟩
    replace H := hid k
    replace G := hid (G.out.trans g)
    clear k g
    go_wp2
    go_end0
    rw [HU.out]
    exact ⟨rfl, _, _, H.out, G.out⟩
set_option maxHeartbeats 4000000 in
set_option maxRecDepth 100000 in
theorem pfn94 (h : PAt b base d s v rc w) (hs : s.Ok 15) : Calls Tryz.prog 94 #[.pointer (some ⟨b, 0, none⟩)] w (Ran b base d (fnE 94 s) v w) := by
  have cp := h.cp
  have ch := h.ch
  have cl := h.cl
  have H := hid h
  have G := hid (Steps.refl b v w)
  have HS := hid hs
  have HO := hid hs.O
  obtain ⟨p0, p1⟩ : 0 ≤ s.p ∧ s.p ≤ 255 := hs.p
  obtain ⟨h0, h1⟩ : 0 ≤ s.h ∧ s.h ≤ 15 := hs.h
  obtain ⟨l0, l1⟩ : 0 ≤ s.l ∧ s.l ≤ 15 := hs.l
  clear h hs
  · have HU : Hid (fnE 94 s = s.ask 18 (256 * s.p) 0) := hid (by rfl)
    go_enter Tryz.func94, Tryz.ntmps94
    go_wp2_with fail
    go_at_call 63
    refine (pask _ _ _ H.out (by have := HO.out; first | omega | (simp only [St.ask, List.length_append, List.length_cons, List.length_nil]; omega))).mono ?_
    rintro e w1 ⟨rfl, v1, r1, k, g⟩
    replace H := hid k
    replace G := hid (G.out.trans g)
    clear k g
    go_wp2
    go_end0
    rw [HU.out]
    exact ⟨rfl, _, _, H.out, G.out⟩
set_option maxHeartbeats 4000000 in
set_option maxRecDepth 100000 in
theorem pfn95 (h : PAt b base d s v rc w) (hs : s.Ok 15) : Calls Tryz.prog 95 #[.pointer (some ⟨b, 0, none⟩)] w (Ran b base d (fnE 95 s) v w) := by
  have cp := h.cp
  have ch := h.ch
  have cl := h.cl
  have H := hid h
  have G := hid (Steps.refl b v w)
  have HS := hid hs
  have HO := hid hs.O
  obtain ⟨p0, p1⟩ : 0 ≤ s.p ∧ s.p ≤ 255 := hs.p
  obtain ⟨h0, h1⟩ : 0 ≤ s.h ∧ s.h ≤ 15 := hs.h
  obtain ⟨l0, l1⟩ : 0 ≤ s.l ∧ s.l ≤ 15 := hs.l
  by_cases hc : 64 < s.p
  clear h hs
  · have HU : Hid (fnE 95 s = s.ask 15 64 0) := hid (by show s.ask 15 (min s.p 64) 0 = _; rw [show min s.p 64 = 64 by omega])
    go_enter Tryz.func95, Tryz.ntmps95
    go_wp2_with fail
    go_at_call 63
    refine (pask _ _ _ H.out (by have := HO.out; first | omega | (simp only [St.ask, List.length_append, List.length_cons, List.length_nil]; omega))).mono ?_
    rintro e w1 ⟨rfl, v1, r1, k, g⟩
    replace H := hid k
    replace G := hid (G.out.trans g)
    clear k g
    go_wp2
    go_end0
    rw [HU.out]
    exact ⟨rfl, _, _, H.out, G.out⟩
  · have HU : Hid (fnE 95 s = s.ask 15 s.p 0) := hid (by show s.ask 15 (min s.p 64) 0 = _; rw [show min s.p 64 = s.p by omega])
    go_enter Tryz.func95, Tryz.ntmps95
    go_wp2_with fail
    go_at_call 63
    refine (pask _ _ _ H.out (by have := HO.out; first | omega | (simp only [St.ask, List.length_append, List.length_cons, List.length_nil]; omega))).mono ?_
    rintro e w1 ⟨rfl, v1, r1, k, g⟩
    replace H := hid k
    replace G := hid (G.out.trans g)
    clear k g
    go_wp2
    go_end0
    rw [HU.out]
    exact ⟨rfl, _, _, H.out, G.out⟩
set_option maxHeartbeats 4000000 in
set_option maxRecDepth 100000 in
theorem pfn96 (h : PAt b base d s v rc w) (hs : s.Ok 15) : Calls Tryz.prog 96 #[.pointer (some ⟨b, 0, none⟩)] w (Ran b base d (fnE 96 s) v w) := by
  have cp := h.cp
  have ch := h.ch
  have cl := h.cl
  have H := hid h
  have G := hid (Steps.refl b v w)
  have HS := hid hs
  have HO := hid hs.O
  obtain ⟨p0, p1⟩ : 0 ≤ s.p ∧ s.p ≤ 255 := hs.p
  obtain ⟨h0, h1⟩ : 0 ≤ s.h ∧ s.h ≤ 15 := hs.h
  obtain ⟨l0, l1⟩ : 0 ≤ s.l ∧ s.l ≤ 15 := hs.l
  clear h hs
  · have HU : Hid (fnE 96 s = s.ask 33 (10 * s.h + s.l) 0) := hid (by rfl)
    go_enter Tryz.func96, Tryz.ntmps96
    go_wp2
    go_still_tail 11, (by kernel_rfl)
    change wpList _ _ _ _ _ w.drew
    replace H := hid H.out.drew
    go_wp2_with fail
    go_at_call 63
    refine (pask _ _ _ H.out (by have := HO.out; first | omega | (simp only [St.ask, List.length_append, List.length_cons, List.length_nil]; omega))).mono ?_
    rintro e w1 ⟨rfl, v1, r1, k, g⟩
    replace H := hid k
    replace G := hid (G.out.trans g.drewl)
    clear k g
    go_wp2
    go_end0
    rw [HU.out]
    exact ⟨rfl, _, _, H.out, G.out⟩
set_option maxHeartbeats 4000000 in
set_option maxRecDepth 100000 in
theorem pfn108 (h : PAt b base d s v rc w) (hs : s.Ok 15) : Calls Tryz.prog 108 #[.pointer (some ⟨b, 0, none⟩)] w (Ran b base d (fnE 108 s) v w) := by
  have cp := h.cp
  have ch := h.ch
  have cl := h.cl
  have H := hid h
  have G := hid (Steps.refl b v w)
  have HS := hid hs
  have HO := hid hs.O
  obtain ⟨p0, p1⟩ : 0 ≤ s.p ∧ s.p ≤ 255 := hs.p
  obtain ⟨h0, h1⟩ : 0 ≤ s.h ∧ s.h ≤ 15 := hs.h
  obtain ⟨l0, l1⟩ : 0 ≤ s.l ∧ s.l ≤ 15 := hs.l
  clear h hs
  · have HU : Hid (fnE 108 s = s.ask 20 (s.h + 1) (s.l + 1)) := hid (by rfl)
    go_enter Tryz.func108, Tryz.ntmps108
    go_wp2
    go_still_tail 11, (by kernel_rfl)
    change wpList _ _ _ _ _ w.drew
    replace H := hid H.out.drew
    go_wp2_with fail
    go_at_call 63
    refine (pask _ _ _ H.out (by have := HO.out; first | omega | (simp only [St.ask, List.length_append, List.length_cons, List.length_nil]; omega))).mono ?_
    rintro e w1 ⟨rfl, v1, r1, k, g⟩
    replace H := hid k
    replace G := hid (G.out.trans g.drewl)
    clear k g
    go_wp2
    go_end0
    rw [HU.out]
    exact ⟨rfl, _, _, H.out, G.out⟩
set_option maxHeartbeats 4000000 in
set_option maxRecDepth 100000 in
theorem pfn112 (h : PAt b base d s v rc w) (hs : s.Ok 15) : Calls Tryz.prog 112 #[.pointer (some ⟨b, 0, none⟩)] w (Ran b base d (fnE 112 s) v w) := by
  have cp := h.cp
  have ch := h.ch
  have cl := h.cl
  have H := hid h
  have G := hid (Steps.refl b v w)
  have HS := hid hs
  have HO := hid hs.O
  obtain ⟨p0, p1⟩ : 0 ≤ s.p ∧ s.p ≤ 255 := hs.p
  obtain ⟨h0, h1⟩ : 0 ≤ s.h ∧ s.h ≤ 15 := hs.h
  obtain ⟨l0, l1⟩ : 0 ≤ s.l ∧ s.l ≤ 15 := hs.l
  clear h hs
  · have HU : Hid (fnE 112 s = s.ask 19 s.l s.h) := hid (by rfl)
    go_enter Tryz.func112, Tryz.ntmps112
    go_wp2
    go_still_tail 9, (by kernel_rfl)
    change wpList _ _ _ _ _ w.drew
    replace H := hid H.out.drew
    go_wp2_with fail
    go_at_call 63
    refine (pask _ _ _ H.out (by have := HO.out; first | omega | (simp only [St.ask, List.length_append, List.length_cons, List.length_nil]; omega))).mono ?_
    rintro e w1 ⟨rfl, v1, r1, k, g⟩
    replace H := hid k
    replace G := hid (G.out.trans g.drewl)
    clear k g
    go_wp2
    go_end0
    rw [HU.out]
    exact ⟨rfl, _, _, H.out, G.out⟩
set_option maxHeartbeats 4000000 in
set_option maxRecDepth 100000 in
theorem pfn99 (h : PAt b base d s v rc w) (hs : s.Ok 15) : Calls Tryz.prog 99 #[.pointer (some ⟨b, 0, none⟩)] w (Ran b base d (fnE 99 s) v w) := by
  have cp := h.cp
  have ch := h.ch
  have cl := h.cl
  have H := hid h
  have G := hid (Steps.refl b v w)
  have HS := hid hs
  have HO := hid hs.O
  obtain ⟨p0, p1⟩ : 0 ≤ s.p ∧ s.p ≤ 255 := hs.p
  obtain ⟨h0, h1⟩ : 0 ≤ s.h ∧ s.h ≤ 15 := hs.h
  obtain ⟨l0, l1⟩ : 0 ≤ s.l ∧ s.l ≤ 15 := hs.l
  by_cases hc : s.p < 32
  clear h hs
  · have HU : Hid (fnE 99 s = s.ask 36 s.p 0) := hid (by show (if s.p < 32 then s.ask 36 s.p 0 else s.ask 37 s.p 0) = _; exact if_pos hc)
    go_enter Tryz.func99, Tryz.ntmps99
    go_wp2_with fail
    go_at_call 63
    refine (pask _ _ _ H.out (by have := HO.out; first | omega | (simp only [St.ask, List.length_append, List.length_cons, List.length_nil]; omega))).mono ?_
    rintro e w1 ⟨rfl, v1, r1, k, g⟩
    replace H := hid k
    replace G := hid (G.out.trans g)
    clear k g
    go_wp2
    go_end0
    rw [HU.out]
    exact ⟨rfl, _, _, H.out, G.out⟩
  · have HU : Hid (fnE 99 s = s.ask 37 s.p 0) := hid (by show (if s.p < 32 then s.ask 36 s.p 0 else s.ask 37 s.p 0) = _; exact if_neg hc)
    go_enter Tryz.func99, Tryz.ntmps99
    go_wp2_with fail
    go_at_call 63
    refine (pask _ _ _ H.out (by have := HO.out; first | omega | (simp only [St.ask, List.length_append, List.length_cons, List.length_nil]; omega))).mono ?_
    rintro e w1 ⟨rfl, v1, r1, k, g⟩
    replace H := hid k
    replace G := hid (G.out.trans g)
    clear k g
    go_wp2
    go_end0
    rw [HU.out]
    exact ⟨rfl, _, _, H.out, G.out⟩
set_option maxHeartbeats 4000000 in
set_option maxRecDepth 100000 in
theorem pfn101 (h : PAt b base d s v rc w) (hs : s.Ok 15) : Calls Tryz.prog 101 #[.pointer (some ⟨b, 0, none⟩)] w (Ran b base d (fnE 101 s) v w) := by
  have cp := h.cp
  have ch := h.ch
  have cl := h.cl
  have H := hid h
  have G := hid (Steps.refl b v w)
  have HS := hid hs
  have HO := hid hs.O
  obtain ⟨p0, p1⟩ : 0 ≤ s.p ∧ s.p ≤ 255 := hs.p
  obtain ⟨h0, h1⟩ : 0 ≤ s.h ∧ s.h ≤ 15 := hs.h
  obtain ⟨l0, l1⟩ : 0 ≤ s.l ∧ s.l ≤ 15 := hs.l
  by_cases hc : 1 < s.l
  clear h hs
  · have HU : Hid (fnE 101 s = s.ask 24 1 0) := hid (by show s.ask 24 (min s.l 1) 0 = _; rw [show min s.l 1 = 1 by omega])
    go_enter Tryz.func101, Tryz.ntmps101
    go_wp2_with fail
    go_at_call 63
    refine (pask _ _ _ H.out (by have := HO.out; first | omega | (simp only [St.ask, List.length_append, List.length_cons, List.length_nil]; omega))).mono ?_
    rintro e w1 ⟨rfl, v1, r1, k, g⟩
    replace H := hid k
    replace G := hid (G.out.trans g)
    clear k g
    go_wp2
    go_end0
    rw [HU.out]
    exact ⟨rfl, _, _, H.out, G.out⟩
  · have HU : Hid (fnE 101 s = s.ask 24 s.l 0) := hid (by show s.ask 24 (min s.l 1) 0 = _; rw [show min s.l 1 = s.l by omega])
    go_enter Tryz.func101, Tryz.ntmps101
    go_wp2_with fail
    go_at_call 63
    refine (pask _ _ _ H.out (by have := HO.out; first | omega | (simp only [St.ask, List.length_append, List.length_cons, List.length_nil]; omega))).mono ?_
    rintro e w1 ⟨rfl, v1, r1, k, g⟩
    replace H := hid k
    replace G := hid (G.out.trans g)
    clear k g
    go_wp2
    go_end0
    rw [HU.out]
    exact ⟨rfl, _, _, H.out, G.out⟩
set_option maxHeartbeats 4000000 in
set_option maxRecDepth 100000 in
theorem pfn102 (h : PAt b base d s v rc w) (hs : s.Ok 15) : Calls Tryz.prog 102 #[.pointer (some ⟨b, 0, none⟩)] w (Ran b base d (fnE 102 s) v w) := by
  have cp := h.cp
  have ch := h.ch
  have cl := h.cl
  have H := hid h
  have G := hid (Steps.refl b v w)
  have HS := hid hs
  have HO := hid hs.O
  obtain ⟨p0, p1⟩ : 0 ≤ s.p ∧ s.p ≤ 255 := hs.p
  obtain ⟨h0, h1⟩ : 0 ≤ s.h ∧ s.h ≤ 15 := hs.h
  obtain ⟨l0, l1⟩ : 0 ≤ s.l ∧ s.l ≤ 15 := hs.l
  clear h hs
  · have HU : Hid (fnE 102 s = s.ask 27 (8 * (s.l - 8)) 0) := hid (by rfl)
    go_enter Tryz.func102, Tryz.ntmps102
    go_wp2_with fail
    go_at_call 63
    refine (pask _ _ _ H.out (by have := HO.out; first | omega | (simp only [St.ask, List.length_append, List.length_cons, List.length_nil]; omega))).mono ?_
    rintro e w1 ⟨rfl, v1, r1, k, g⟩
    replace H := hid k
    replace G := hid (G.out.trans g)
    clear k g
    go_wp2
    go_end0
    rw [HU.out]
    exact ⟨rfl, _, _, H.out, G.out⟩
set_option maxHeartbeats 4000000 in
set_option maxRecDepth 100000 in
theorem pfn104 (h : PAt b base d s v rc w) (hs : s.Ok 15) : Calls Tryz.prog 104 #[.pointer (some ⟨b, 0, none⟩)] w (Ran b base d (fnE 104 s) v w) := by
  have cp := h.cp
  have ch := h.ch
  have cl := h.cl
  have H := hid h
  have G := hid (Steps.refl b v w)
  have HS := hid hs
  have HO := hid hs.O
  obtain ⟨p0, p1⟩ : 0 ≤ s.p ∧ s.p ≤ 255 := hs.p
  obtain ⟨h0, h1⟩ : 0 ≤ s.h ∧ s.h ≤ 15 := hs.h
  obtain ⟨l0, l1⟩ : 0 ≤ s.l ∧ s.l ≤ 15 := hs.l
  clear h hs
  · have HU : Hid (fnE 104 s = s.ask 16 (panV (17 * s.l)) 0) := hid (by rfl)
    go_enter Tryz.func104, Tryz.ntmps104
    go_wp2_with fail
    go_at_call 93
    refine (ppan _ _ (by omega) (by omega)).mono ?_
    rintro e w1 ⟨rfl, rfl⟩
    go_wp2_with fail
    go_at_call 63
    refine (pask _ _ _ H.out (by have := HO.out; first | omega | (simp only [St.ask, List.length_append, List.length_cons, List.length_nil]; omega))).mono ?_
    rintro e w1 ⟨rfl, v1, r1, k, g⟩
    replace H := hid k
    replace G := hid (G.out.trans g)
    clear k g
    go_wp2
    go_end0
    rw [HU.out]
    exact ⟨rfl, _, _, H.out, G.out⟩
set_option maxHeartbeats 4000000 in
set_option maxRecDepth 100000 in
theorem pfn111 (h : PAt b base d s v rc w) (hs : s.Ok 15) : Calls Tryz.prog 111 #[.pointer (some ⟨b, 0, none⟩)] w (Ran b base d (fnE 111 s) v w) := by
  have cp := h.cp
  have ch := h.ch
  have cl := h.cl
  have H := hid h
  have G := hid (Steps.refl b v w)
  have HS := hid hs
  have HO := hid hs.O
  obtain ⟨p0, p1⟩ : 0 ≤ s.p ∧ s.p ≤ 255 := hs.p
  obtain ⟨h0, h1⟩ : 0 ≤ s.h ∧ s.h ≤ 15 := hs.h
  obtain ⟨l0, l1⟩ : 0 ≤ s.l ∧ s.l ≤ 15 := hs.l
  clear h hs
  · have HU : Hid (fnE 111 s = s.ask 18 (256 * s.p) 0) := hid (by rfl)
    go_enter Tryz.func111, Tryz.ntmps111
    go_wp2_with fail
    go_at_call 63
    refine (pask _ _ _ H.out (by have := HO.out; first | omega | (simp only [St.ask, List.length_append, List.length_cons, List.length_nil]; omega))).mono ?_
    rintro e w1 ⟨rfl, v1, r1, k, g⟩
    replace H := hid k
    replace G := hid (G.out.trans g)
    clear k g
    go_wp2
    go_end0
    rw [HU.out]
    exact ⟨rfl, _, _, H.out, G.out⟩
set_option maxHeartbeats 4000000 in
set_option maxRecDepth 100000 in
theorem pfn113 (h : PAt b base d s v rc w) (hs : s.Ok 15) : Calls Tryz.prog 113 #[.pointer (some ⟨b, 0, none⟩)] w (Ran b base d (fnE 113 s) v w) := by
  have cp := h.cp
  have ch := h.ch
  have cl := h.cl
  have H := hid h
  have G := hid (Steps.refl b v w)
  have HS := hid hs
  have HO := hid hs.O
  obtain ⟨p0, p1⟩ : 0 ≤ s.p ∧ s.p ≤ 255 := hs.p
  obtain ⟨h0, h1⟩ : 0 ≤ s.h ∧ s.h ≤ 15 := hs.h
  obtain ⟨l0, l1⟩ : 0 ≤ s.l ∧ s.l ≤ 15 := hs.l
  by_cases hc : 32 ≤ s.p
  clear h hs
  · have HU : Hid (fnE 113 s = s.ask 37 s.p 0) := hid (by show (if 32 ≤ s.p then s.ask 37 s.p 0 else s) = _; exact if_pos hc)
    go_enter Tryz.func113, Tryz.ntmps113
    go_wp2_with fail
    go_at_call 63
    refine (pask _ _ _ H.out (by have := HO.out; first | omega | (simp only [St.ask, List.length_append, List.length_cons, List.length_nil]; omega))).mono ?_
    rintro e w1 ⟨rfl, v1, r1, k, g⟩
    replace H := hid k
    replace G := hid (G.out.trans g)
    clear k g
    go_wp2
    go_end0
    rw [HU.out]
    exact ⟨rfl, _, _, H.out, G.out⟩
  · have HU : Hid (fnE 113 s = s) := hid (by show (if 32 ≤ s.p then s.ask 37 s.p 0 else s) = _; exact if_neg hc)
    go_enter Tryz.func113, Tryz.ntmps113
    go_wp2
    go_end0
    rw [HU.out]
    exact ⟨rfl, _, _, H.out, G.out⟩
set_option maxHeartbeats 4000000 in
set_option maxRecDepth 100000 in
theorem pfn117 (h : PAt b base d s v rc w) (hs : s.Ok 15) : Calls Tryz.prog 117 #[.pointer (some ⟨b, 0, none⟩)] w (Ran b base d (fnE 117 s) v w) := by
  have cp := h.cp
  have ch := h.ch
  have cl := h.cl
  have H := hid h
  have G := hid (Steps.refl b v w)
  have HS := hid hs
  have HO := hid hs.O
  obtain ⟨p0, p1⟩ : 0 ≤ s.p ∧ s.p ≤ 255 := hs.p
  obtain ⟨h0, h1⟩ : 0 ≤ s.h ∧ s.h ≤ 15 := hs.h
  obtain ⟨l0, l1⟩ : 0 ≤ s.l ∧ s.l ≤ 15 := hs.l
  clear h hs
  · have HU : Hid (fnE 117 s = s.ask 19 s.l s.h) := hid (by rfl)
    go_enter Tryz.func117, Tryz.ntmps117
    go_wp2
    go_still_tail 9, (by kernel_rfl)
    change wpList _ _ _ _ _ w.drew
    replace H := hid H.out.drew
    go_wp2_with fail
    go_at_call 63
    refine (pask _ _ _ H.out (by have := HO.out; first | omega | (simp only [St.ask, List.length_append, List.length_cons, List.length_nil]; omega))).mono ?_
    rintro e w1 ⟨rfl, v1, r1, k, g⟩
    replace H := hid k
    replace G := hid (G.out.trans g.drewl)
    clear k g
    go_wp2
    go_end0
    rw [HU.out]
    exact ⟨rfl, _, _, H.out, G.out⟩
set_option maxHeartbeats 4000000 in
set_option maxRecDepth 100000 in
theorem pfn121 (h : PAt b base d s v rc w) (hs : s.Ok 15) : Calls Tryz.prog 121 #[.pointer (some ⟨b, 0, none⟩)] w (Ran b base d (fnE 121 s) v w) := by
  have cp := h.cp
  have ch := h.ch
  have cl := h.cl
  have H := hid h
  have G := hid (Steps.refl b v w)
  have HS := hid hs
  have HO := hid hs.O
  obtain ⟨p0, p1⟩ : 0 ≤ s.p ∧ s.p ≤ 255 := hs.p
  obtain ⟨h0, h1⟩ : 0 ≤ s.h ∧ s.h ≤ 15 := hs.h
  obtain ⟨l0, l1⟩ : 0 ≤ s.l ∧ s.l ≤ 15 := hs.l
  clear h hs
  · have HU : Hid (fnE 121 s = s.ask 17 s.l s.h) := hid (by rfl)
    go_enter Tryz.func121, Tryz.ntmps121
    go_wp2
    go_still_tail 9, (by kernel_rfl)
    change wpList _ _ _ _ _ w.drew
    replace H := hid H.out.drew
    go_wp2_with fail
    go_at_call 63
    refine (pask _ _ _ H.out (by have := HO.out; first | omega | (simp only [St.ask, List.length_append, List.length_cons, List.length_nil]; omega))).mono ?_
    rintro e w1 ⟨rfl, v1, r1, k, g⟩
    replace H := hid k
    replace G := hid (G.out.trans g.drewl)
    clear k g
    go_wp2
    go_end0
    rw [HU.out]
    exact ⟨rfl, _, _, H.out, G.out⟩
set_option maxHeartbeats 4000000 in
set_option maxRecDepth 100000 in
theorem pfn124 (h : PAt b base d s v rc w) (hs : s.Ok 15) : Calls Tryz.prog 124 #[.pointer (some ⟨b, 0, none⟩)] w (Ran b base d (fnE 124 s) v w) := by
  have cp := h.cp
  have ch := h.ch
  have cl := h.cl
  have H := hid h
  have G := hid (Steps.refl b v w)
  have HS := hid hs
  have HO := hid hs.O
  obtain ⟨p0, p1⟩ : 0 ≤ s.p ∧ s.p ≤ 255 := hs.p
  obtain ⟨h0, h1⟩ : 0 ≤ s.h ∧ s.h ≤ 15 := hs.h
  obtain ⟨l0, l1⟩ : 0 ≤ s.l ∧ s.l ≤ 15 := hs.l
  clear h hs
  · have HU : Hid (fnE 124 s = s.ask 16 (panV s.p) 0) := hid (by rfl)
    go_enter Tryz.func124, Tryz.ntmps124
    go_wp2_with fail
    go_at_call 93
    refine (ppan _ _ (by omega) (by omega)).mono ?_
    rintro e w1 ⟨rfl, rfl⟩
    go_wp2_with fail
    go_at_call 63
    refine (pask _ _ _ H.out (by have := HO.out; first | omega | (simp only [St.ask, List.length_append, List.length_cons, List.length_nil]; omega))).mono ?_
    rintro e w1 ⟨rfl, v1, r1, k, g⟩
    replace H := hid k
    replace G := hid (G.out.trans g)
    clear k g
    go_wp2
    go_end0
    rw [HU.out]
    exact ⟨rfl, _, _, H.out, G.out⟩
set_option maxHeartbeats 4000000 in
set_option maxRecDepth 100000 in
theorem pfn127 (h : PAt b base d s v rc w) (hs : s.Ok 15) : Calls Tryz.prog 127 #[.pointer (some ⟨b, 0, none⟩)] w (Ran b base d (fnE 127 s) v w) := by
  have cp := h.cp
  have ch := h.ch
  have cl := h.cl
  have H := hid h
  have G := hid (Steps.refl b v w)
  have HS := hid hs
  have HO := hid hs.O
  obtain ⟨p0, p1⟩ : 0 ≤ s.p ∧ s.p ≤ 255 := hs.p
  obtain ⟨h0, h1⟩ : 0 ≤ s.h ∧ s.h ≤ 15 := hs.h
  obtain ⟨l0, l1⟩ : 0 ≤ s.l ∧ s.l ≤ 15 := hs.l
  clear h hs
  · have HU : Hid (fnE 127 s = s.ask 47 (s.p % 32) 0) := hid (by rfl)
    go_enter Tryz.func127, Tryz.ntmps127
    go_wp2_with fail
    go_at_call 63
    refine (pask _ _ _ H.out (by have := HO.out; first | omega | (simp only [St.ask, List.length_append, List.length_cons, List.length_nil]; omega))).mono ?_
    rintro e w1 ⟨rfl, v1, r1, k, g⟩
    replace H := hid k
    replace G := hid (G.out.trans g)
    clear k g
    go_wp2
    go_end0
    rw [HU.out]
    exact ⟨rfl, _, _, H.out, G.out⟩
set_option maxHeartbeats 4000000 in
set_option maxRecDepth 100000 in
theorem pfn128 (h : PAt b base d s v rc w) (hs : s.Ok 15) : Calls Tryz.prog 128 #[.pointer (some ⟨b, 0, none⟩)] w (Ran b base d (fnE 128 s) v w) := by
  have cp := h.cp
  have ch := h.ch
  have cl := h.cl
  have H := hid h
  have G := hid (Steps.refl b v w)
  have HS := hid hs
  have HO := hid hs.O
  obtain ⟨p0, p1⟩ : 0 ≤ s.p ∧ s.p ≤ 255 := hs.p
  obtain ⟨h0, h1⟩ : 0 ≤ s.h ∧ s.h ≤ 15 := hs.h
  obtain ⟨l0, l1⟩ : 0 ≤ s.l ∧ s.l ≤ 15 := hs.l
  clear h hs
  · have HU : Hid (fnE 128 s = s.ask 48 (s.p % 16) 0) := hid (by rfl)
    go_enter Tryz.func128, Tryz.ntmps128
    go_wp2_with fail
    go_at_call 63
    refine (pask _ _ _ H.out (by have := HO.out; first | omega | (simp only [St.ask, List.length_append, List.length_cons, List.length_nil]; omega))).mono ?_
    rintro e w1 ⟨rfl, v1, r1, k, g⟩
    replace H := hid k
    replace G := hid (G.out.trans g)
    clear k g
    go_wp2
    go_end0
    rw [HU.out]
    exact ⟨rfl, _, _, H.out, G.out⟩
set_option maxHeartbeats 4000000 in
set_option maxRecDepth 100000 in
theorem pfn135 (h : PAt b base d s v rc w) (hs : s.Ok 15) : Calls Tryz.prog 135 #[.pointer (some ⟨b, 0, none⟩)] w (Ran b base d (fnE 135 s) v w) := by
  have cp := h.cp
  have ch := h.ch
  have cl := h.cl
  have H := hid h
  have G := hid (Steps.refl b v w)
  have HS := hid hs
  have HO := hid hs.O
  obtain ⟨p0, p1⟩ : 0 ≤ s.p ∧ s.p ≤ 255 := hs.p
  obtain ⟨h0, h1⟩ : 0 ≤ s.h ∧ s.h ≤ 15 := hs.h
  obtain ⟨l0, l1⟩ : 0 ≤ s.l ∧ s.l ≤ 15 := hs.l
  by_cases hc : 8 ≤ s.l
  clear h hs
  · have HU : Hid (fnE 135 s = s.ask 27 (8 * (s.l - 16)) 0) := hid (by exact if_pos hc)
    go_enter Tryz.func135, Tryz.ntmps135
    go_wp2_with fail
    go_at_call 63
    refine (pask _ _ _ H.out (by have := HO.out; first | omega | (simp only [St.ask, List.length_append, List.length_cons, List.length_nil]; omega))).mono ?_
    rintro e w1 ⟨rfl, v1, r1, k, g⟩
    replace H := hid k
    replace G := hid (G.out.trans g)
    clear k g
    go_wp2
    go_end0
    rw [HU.out]
    exact ⟨rfl, _, _, H.out, G.out⟩
  · have HU : Hid (fnE 135 s = s.ask 27 (8 * s.l) 0) := hid (by exact if_neg hc)
    go_enter Tryz.func135, Tryz.ntmps135
    go_wp2_with fail
    go_at_call 63
    refine (pask _ _ _ H.out (by have := HO.out; first | omega | (simp only [St.ask, List.length_append, List.length_cons, List.length_nil]; omega))).mono ?_
    rintro e w1 ⟨rfl, v1, r1, k, g⟩
    replace H := hid k
    replace G := hid (G.out.trans g)
    clear k g
    go_wp2
    go_end0
    rw [HU.out]
    exact ⟨rfl, _, _, H.out, G.out⟩
set_option maxHeartbeats 4000000 in
set_option maxRecDepth 100000 in
theorem pfn123 (h : PAt b base d s v rc w) (hs : s.Ok 15) : Calls Tryz.prog 123 #[.pointer (some ⟨b, 0, none⟩)] w (Ran b base d (fnE 123 s) v w) := by
  have cp := h.cp
  have ch := h.ch
  have cl := h.cl
  have H := hid h
  have G := hid (Steps.refl b v w)
  have HS := hid hs
  have HO := hid hs.O
  obtain ⟨p0, p1⟩ : 0 ≤ s.p ∧ s.p ≤ 255 := hs.p
  obtain ⟨h0, h1⟩ : 0 ≤ s.h ∧ s.h ≤ 15 := hs.h
  obtain ⟨l0, l1⟩ : 0 ≤ s.l ∧ s.l ≤ 15 := hs.l
  rcases (show s.p < 16 ∨ (¬ s.p < 16 ∧ s.p < 32) ∨ (¬ s.p < 16 ∧ ¬ s.p < 32) by omega) with hc | ⟨hc, hc2⟩ | ⟨hc, hc2⟩
  clear h hs
  · have HU : Hid (fnE 123 s = s.ask 38 (- s.l) 0) := hid (by exact if_pos hc)
    go_enter Tryz.func123, Tryz.ntmps123
    go_wp2_with fail
    go_at_call 63
    refine (pask _ _ _ H.out (by have := HO.out; first | omega | (simp only [St.ask, List.length_append, List.length_cons, List.length_nil]; omega))).mono ?_
    rintro e w1 ⟨rfl, v1, r1, k, g⟩
    replace H := hid k
    replace G := hid (G.out.trans g)
    clear k g
    go_wp2
    go_end0
    rw [HU.out]
    exact ⟨rfl, _, _, H.out, G.out⟩
  · have HU : Hid (fnE 123 s = s.ask 38 s.l 0) := hid (by exact (if_neg hc).trans (if_pos hc2))
    go_enter Tryz.func123, Tryz.ntmps123
    go_wp2_with fail
    go_at_call 63
    refine (pask _ _ _ H.out (by have := HO.out; first | omega | (simp only [St.ask, List.length_append, List.length_cons, List.length_nil]; omega))).mono ?_
    rintro e w1 ⟨rfl, v1, r1, k, g⟩
    replace H := hid k
    replace G := hid (G.out.trans g)
    clear k g
    go_wp2
    go_end0
    rw [HU.out]
    exact ⟨rfl, _, _, H.out, G.out⟩
  · have HU : Hid (fnE 123 s = s.ask 37 s.p 0) := hid (by exact (if_neg hc).trans (if_neg hc2))
    go_enter Tryz.func123, Tryz.ntmps123
    go_wp2_with fail
    go_at_call 63
    refine (pask _ _ _ H.out (by have := HO.out; first | omega | (simp only [St.ask, List.length_append, List.length_cons, List.length_nil]; omega))).mono ?_
    rintro e w1 ⟨rfl, v1, r1, k, g⟩
    replace H := hid k
    replace G := hid (G.out.trans g)
    clear k g
    go_wp2
    go_end0
    rw [HU.out]
    exact ⟨rfl, _, _, H.out, G.out⟩
set_option maxHeartbeats 4000000 in
set_option maxRecDepth 100000 in
theorem pfn125 (h : PAt b base d s v rc w) (hs : s.Ok 15) : Calls Tryz.prog 125 #[.pointer (some ⟨b, 0, none⟩)] w (Ran b base d (fnE 125 s) v w) := by
  have cp := h.cp
  have ch := h.ch
  have cl := h.cl
  have H := hid h
  have G := hid (Steps.refl b v w)
  have HS := hid hs
  have HO := hid hs.O
  obtain ⟨p0, p1⟩ : 0 ≤ s.p ∧ s.p ≤ 255 := hs.p
  obtain ⟨h0, h1⟩ : 0 ≤ s.h ∧ s.h ≤ 15 := hs.h
  obtain ⟨l0, l1⟩ : 0 ≤ s.l ∧ s.l ≤ 15 := hs.l
  rcases (show s.p < 128 ∨ (¬ s.p < 128 ∧ s.p < 144) ∨ (¬ s.p < 128 ∧ ¬ s.p < 144) by omega) with hc | ⟨hc, hc2⟩ | ⟨hc, hc2⟩
  clear h hs
  · have HU : Hid (fnE 125 s = s.ask 42 s.p 0) := hid (by exact if_pos hc)
    go_enter Tryz.func125, Tryz.ntmps125
    go_wp2_with fail
    go_at_call 63
    refine (pask _ _ _ H.out (by have := HO.out; first | omega | (simp only [St.ask, List.length_append, List.length_cons, List.length_nil]; omega))).mono ?_
    rintro e w1 ⟨rfl, v1, r1, k, g⟩
    replace H := hid k
    replace G := hid (G.out.trans g)
    clear k g
    go_wp2
    go_end0
    rw [HU.out]
    exact ⟨rfl, _, _, H.out, G.out⟩
  · have HU : Hid (fnE 125 s = s.ask 43 (8 * (s.p - 128)) 0) := hid (by exact (if_neg hc).trans (if_pos hc2))
    go_enter Tryz.func125, Tryz.ntmps125
    go_wp2_with fail
    go_at_call 63
    refine (pask _ _ _ H.out (by have := HO.out; first | omega | (simp only [St.ask, List.length_append, List.length_cons, List.length_nil]; omega))).mono ?_
    rintro e w1 ⟨rfl, v1, r1, k, g⟩
    replace H := hid k
    replace G := hid (G.out.trans g)
    clear k g
    go_wp2
    go_end0
    rw [HU.out]
    exact ⟨rfl, _, _, H.out, G.out⟩
  · have HU : Hid (fnE 125 s = s) := hid (by exact (if_neg hc).trans (if_neg hc2))
    go_enter Tryz.func125, Tryz.ntmps125
    go_wp2
    go_end0
    rw [HU.out]
    exact ⟨rfl, _, _, H.out, G.out⟩
set_option maxHeartbeats 4000000 in
set_option maxRecDepth 100000 in
theorem pfn140 (h : PAt b base d s v rc w) (hs : s.Ok 15) : Calls Tryz.prog 140 #[.pointer (some ⟨b, 0, none⟩)] w (Ran b base d (fnE 140 s) v w) := by
  have cp := h.cp
  have ch := h.ch
  have cl := h.cl
  have H := hid h
  have G := hid (Steps.refl b v w)
  have HS := hid hs
  have HO := hid hs.O
  obtain ⟨p0, p1⟩ : 0 ≤ s.p ∧ s.p ≤ 255 := hs.p
  obtain ⟨h0, h1⟩ : 0 ≤ s.h ∧ s.h ≤ 15 := hs.h
  obtain ⟨l0, l1⟩ : 0 ≤ s.l ∧ s.l ≤ 15 := hs.l
  rcases (show s.l ≤ 2 ∨ (¬ s.l ≤ 2 ∧ s.l ≤ 6) ∨ (¬ s.l ≤ 2 ∧ ¬ s.l ≤ 6) by omega) with hc | ⟨hc, hc2⟩ | ⟨hc, hc2⟩
  clear h hs
  · have HU : Hid (fnE 140 s = s.ask 41 s.l 0) := hid (by exact if_pos hc)
    go_enter Tryz.func140, Tryz.ntmps140
    go_wp2_with fail
    go_at_call 63
    refine (pask _ _ _ H.out (by have := HO.out; first | omega | (simp only [St.ask, List.length_append, List.length_cons, List.length_nil]; omega))).mono ?_
    rintro e w1 ⟨rfl, v1, r1, k, g⟩
    replace H := hid k
    replace G := hid (G.out.trans g)
    clear k g
    go_wp2
    go_end0
    rw [HU.out]
    exact ⟨rfl, _, _, H.out, G.out⟩
  · have HU : Hid (fnE 140 s = s.ask 40 (s.l - 3) 0) := hid (by exact (if_neg hc).trans (if_pos hc2))
    go_enter Tryz.func140, Tryz.ntmps140
    go_wp2_with fail
    go_at_call 63
    refine (pask _ _ _ H.out (by have := HO.out; first | omega | (simp only [St.ask, List.length_append, List.length_cons, List.length_nil]; omega))).mono ?_
    rintro e w1 ⟨rfl, v1, r1, k, g⟩
    replace H := hid k
    replace G := hid (G.out.trans g)
    clear k g
    go_wp2
    go_end0
    rw [HU.out]
    exact ⟨rfl, _, _, H.out, G.out⟩
  · have HU : Hid (fnE 140 s = s) := hid (by exact (if_neg hc).trans (if_neg hc2))
    go_enter Tryz.func140, Tryz.ntmps140
    go_wp2
    go_end0
    rw [HU.out]
    exact ⟨rfl, _, _, H.out, G.out⟩
set_option maxHeartbeats 4000000 in
set_option maxRecDepth 100000 in
theorem pfn141 (h : PAt b base d s v rc w) (hs : s.Ok 15) : Calls Tryz.prog 141 #[.pointer (some ⟨b, 0, none⟩)] w (Ran b base d (fnE 141 s) v w) := by
  have cp := h.cp
  have ch := h.ch
  have cl := h.cl
  have H := hid h
  have G := hid (Steps.refl b v w)
  have HS := hid hs
  have HO := hid hs.O
  obtain ⟨p0, p1⟩ : 0 ≤ s.p ∧ s.p ≤ 255 := hs.p
  obtain ⟨h0, h1⟩ : 0 ≤ s.h ∧ s.h ≤ 15 := hs.h
  obtain ⟨l0, l1⟩ : 0 ≤ s.l ∧ s.l ≤ 15 := hs.l
  rcases (show s.l ≤ 1 ∨ (¬ s.l ≤ 1 ∧ s.l = 15) ∨ (¬ s.l ≤ 1 ∧ ¬ s.l = 15) by omega) with hc | ⟨hc, hc2⟩ | ⟨hc, hc2⟩
  clear h hs
  · have HU : Hid (fnE 141 s = s.ask 44 s.l 0) := hid (by exact if_pos hc)
    go_enter Tryz.func141, Tryz.ntmps141
    go_wp2_with fail
    go_at_call 63
    refine (pask _ _ _ H.out (by have := HO.out; first | omega | (simp only [St.ask, List.length_append, List.length_cons, List.length_nil]; omega))).mono ?_
    rintro e w1 ⟨rfl, v1, r1, k, g⟩
    replace H := hid k
    replace G := hid (G.out.trans g)
    clear k g
    go_wp2
    go_end0
    rw [HU.out]
    exact ⟨rfl, _, _, H.out, G.out⟩
  · have HC2 := hid hc2
    have t15 : (s.l == 15) = true := beq_true hc2
    clear hc2
    have HU : Hid (fnE 141 s = s.ask 45 1 0) := hid (by exact (if_neg hc).trans (if_pos HC2.out))
    go_enter Tryz.func141, Tryz.ntmps141
    go_wp2_with fail
    go_at_call 63
    refine (pask _ _ _ H.out (by have := HO.out; first | omega | (simp only [St.ask, List.length_append, List.length_cons, List.length_nil]; omega))).mono ?_
    rintro e w1 ⟨rfl, v1, r1, k, g⟩
    replace H := hid k
    replace G := hid (G.out.trans g)
    clear k g
    go_wp2
    go_end0
    rw [HU.out]
    exact ⟨rfl, _, _, H.out, G.out⟩
  · have HC2 := hid hc2
    have t15 : (s.l == 15) = false := beq_false hc2
    clear hc2
    have HU : Hid (fnE 141 s = s) := hid (by exact (if_neg hc).trans (if_neg HC2.out))
    go_enter Tryz.func141, Tryz.ntmps141
    go_wp2
    go_end0
    rw [HU.out]
    exact ⟨rfl, _, _, H.out, G.out⟩
set_option maxHeartbeats 4000000 in
set_option maxRecDepth 100000 in
theorem pfn89 (h : PAt b base d s v rc w) (hs : s.Ok 15) : Calls Tryz.prog 89 #[.pointer (some ⟨b, 0, none⟩)] w (Ran b base d (fnE 89 s) v w) := by
  have cp := h.cp
  have ch := h.ch
  have cl := h.cl
  have H := hid h
  have G := hid (Steps.refl b v w)
  have HS := hid hs
  have HO := hid hs.O
  obtain ⟨p0, p1⟩ : 0 ≤ s.p ∧ s.p ≤ 255 := hs.p
  obtain ⟨h0, h1⟩ : 0 ≤ s.h ∧ s.h ≤ 15 := hs.h
  obtain ⟨l0, l1⟩ : 0 ≤ s.l ∧ s.l ≤ 15 := hs.l
  clear h hs
  · have HU : Hid (fnE 89 s = (s.ask 8 (s.slot 1) 0).ask 12 s.h s.l) := hid (by rfl)
    go_enter Tryz.func89, Tryz.ntmps89
    go_wp2_with fail
    go_at_call 77
    refine (pslot 1 (by omega) H.out).mono ?_
    rintro e w1 ⟨rfl, k, g⟩
    have cp : w1.cell? ⟨b, 27, none⟩ = some (.int .i64 s.p) := k.cp
    have ch : w1.cell? ⟨b, 28, none⟩ = some (.int .i64 s.h) := k.ch
    have cl : w1.cell? ⟨b, 29, none⟩ = some (.int .i64 s.l) := k.cl
    replace H := hid k
    replace G := hid (G.out.trans g)
    clear k g
    go_wp2_with fail
    go_at_call 63
    refine (pask _ _ _ H.out (by have := HO.out; first | omega | (simp only [St.ask, List.length_append, List.length_cons, List.length_nil]; omega))).mono ?_
    rintro e w2 ⟨rfl, v2, r2, k, g⟩
    have cp : w2.cell? ⟨b, 27, none⟩ = some (.int .i64 s.p) := k.cp
    have ch : w2.cell? ⟨b, 28, none⟩ = some (.int .i64 s.h) := k.ch
    have cl : w2.cell? ⟨b, 29, none⟩ = some (.int .i64 s.l) := k.cl
    replace H := hid k
    replace G := hid (G.out.trans g)
    clear k g
    go_wp2
    go_still_tail 9, (by kernel_rfl)
    change wpList _ _ _ _ _ w2.drew
    replace H := hid H.out.drew
    go_wp2_with fail
    go_at_call 63
    refine (pask _ _ _ H.out (by have := HO.out; first | omega | (simp only [St.ask, List.length_append, List.length_cons, List.length_nil]; omega))).mono ?_
    rintro e w3 ⟨rfl, v3, r3, k, g⟩
    replace H := hid k
    replace G := hid (G.out.trans g.drewl)
    clear k g
    go_wp2
    go_end0
    rw [HU.out]
    exact ⟨rfl, _, _, H.out, G.out⟩
end
end Go.Proofs.YtkpielgdfahanaaGreat
namespace Go.Proofs.YtkpielgdfahanaaGreat
open Go.RowKit Go.Maps
section
variable {b base : Nat} {d : Int} {s : St} {v : Value} {rc : Bool} {w : World}

set_option maxHeartbeats 4000000 in
set_option maxRecDepth 100000 in
theorem prec (k : Nat) (hk : k < 24) (h : PAt b base d s v rc w) (hs : s.Ok 15) : Calls Tryz.prog 91 #[.pointer (some ⟨b, 0, none⟩), .int .i64 k] w (Ran b base d (s.ask 9 (s.slot k / 16) (s.slot k % 16)) v w) := by
  have cp := h.cp
  have ch := h.ch
  have cl := h.cl
  have H := hid h
  have G := hid (Steps.refl b v w)
  have HS := hid hs
  have HO := hid hs.O
  obtain ⟨p0, p1⟩ : 0 ≤ s.p ∧ s.p ≤ 255 := hs.p
  obtain ⟨h0, h1⟩ : 0 ≤ s.h ∧ s.h ≤ 15 := hs.h
  obtain ⟨l0, l1⟩ : 0 ≤ s.l ∧ s.l ≤ 15 := hs.l
  have hk0 : (0 : Int) ≤ (k : Int) := by omega
  have hk1 : (k : Int) < 24 := by omega
  have HK := hid hk
  obtain ⟨s0, s1⟩ := hs.slots k hk
  clear h hs hk
  · go_enter Tryz.func91, Tryz.ntmps91
    go_wp2_with fail
    go_at_call 77
    refine (pslot k HK.out H.out).mono ?_
    rintro e w1 ⟨rfl, k, g⟩
    have cp : w1.cell? ⟨b, 27, none⟩ = some (.int .i64 s.p) := k.cp
    have ch : w1.cell? ⟨b, 28, none⟩ = some (.int .i64 s.h) := k.ch
    have cl : w1.cell? ⟨b, 29, none⟩ = some (.int .i64 s.l) := k.cl
    replace H := hid k
    replace G := hid (G.out.trans g)
    clear k g
    go_wp2_with fail
    go_at_call 77
    refine (pslot k HK.out H.out).mono ?_
    rintro e w2 ⟨rfl, k, g⟩
    have cp : w2.cell? ⟨b, 27, none⟩ = some (.int .i64 s.p) := k.cp
    have ch : w2.cell? ⟨b, 28, none⟩ = some (.int .i64 s.h) := k.ch
    have cl : w2.cell? ⟨b, 29, none⟩ = some (.int .i64 s.l) := k.cl
    replace H := hid k
    replace G := hid (G.out.trans g)
    clear k g
    go_wp2_with fail
    go_at_call 63
    refine (pask _ _ _ H.out (by have := HO.out; first | omega | (simp only [St.ask, List.length_append, List.length_cons, List.length_nil]; omega))).mono ?_
    rintro e w3 ⟨rfl, v3, r3, k, g⟩
    replace H := hid k
    replace G := hid (G.out.trans g)
    clear k g
    go_wp2
    go_end0
    exact ⟨rfl, _, _, H.out, G.out⟩
set_option maxHeartbeats 4000000 in
set_option maxRecDepth 100000 in
theorem pslide {O : List (Int × Int × Int)} (h : PAt b base d s v rc w) (hs : (St.mk s.M s.p s.h s.l O).Ok 15) (hO : s.O.length ≤ 44) : Calls Tryz.prog 105 #[.pointer (some ⟨b, 0, none⟩)] w (Ran b base d (slideE s) v w) := by
  have cp := h.cp
  have ch := h.ch
  have cl := h.cl
  have H := hid h
  have G := hid (Steps.refl b v w)
  have HS := hid hs
  have HO := hid hO
  obtain ⟨p0, p1⟩ : 0 ≤ s.p ∧ s.p ≤ 255 := hs.p
  obtain ⟨h0, h1⟩ : 0 ≤ s.h ∧ s.h ≤ 15 := hs.h
  obtain ⟨l0, l1⟩ : 0 ≤ s.l ∧ s.l ≤ 15 := hs.l
  rcases (show (s.l = 15 ∧ s.h ≠ 0) ∨ (s.l = 15 ∧ s.h = 0) ∨ (s.l ≠ 15 ∧ s.h = 15 ∧ s.l ≠ 0) ∨ (s.l ≠ 15 ∧ s.h = 15 ∧ s.l = 0) ∨ (s.l ≠ 15 ∧ s.h ≠ 15) by omega) with ⟨hx, hy⟩ | ⟨hx, hy⟩ | ⟨hx, hy, hz⟩ | ⟨hx, hy, hz⟩ | ⟨hx, hy⟩
  clear h hs hO
  · have HX := hid hx
    have HY := hid hy
    rw [hx] at cl l0 l1
    have tH : (s.h != 0) = true := by simpa using hy
    clear hx hy
    have HU : Hid (slideE s = s.ask 13 s.h 0) := hid (by exact if_pos ⟨HX.out, HY.out⟩)
    go_enter Tryz.func105, Tryz.ntmps105
    go_wp2_with fail
    go_at_call 63
    refine (pask _ _ _ H.out (by have := HO.out; first | omega | (simp only [St.ask, List.length_append, List.length_cons, List.length_nil]; omega))).mono ?_
    rintro e w1 ⟨rfl, v1, r1, k, g⟩
    replace H := hid k
    replace G := hid (G.out.trans g)
    clear k g
    go_wp2
    go_end0
    rw [HU.out]
    exact ⟨rfl, _, _, H.out, G.out⟩
  · have HX := hid hx
    have HY := hid hy
    rw [hx] at cl l0 l1
    rw [hy] at ch h0 h1
    clear hx hy
    have HU : Hid (slideE s = s.ask 12 0 15) := hid (by show (if s.l = 15 ∧ s.h ≠ 0 then _ else if s.h = 15 ∧ s.l ≠ 0 then _ else s.ask 12 s.h s.l) = _; rw [HX.out, HY.out]; rfl)
    go_enter Tryz.func105, Tryz.ntmps105
    go_wp2
    go_still_tail 9, (by kernel_rfl)
    change wpList _ _ _ _ _ w.drew
    replace H := hid H.out.drew
    go_wp2_with fail
    go_at_call 63
    refine (pask _ _ _ H.out (by have := HO.out; first | omega | (simp only [St.ask, List.length_append, List.length_cons, List.length_nil]; omega))).mono ?_
    rintro e w1 ⟨rfl, v1, r1, k, g⟩
    replace H := hid k
    replace G := hid (G.out.trans g.drewl)
    clear k g
    go_wp2
    go_end0
    rw [HU.out]
    exact ⟨rfl, _, _, H.out, G.out⟩
  · have HX := hid hx
    have HY := hid hy
    have HZ := hid hz
    rw [hy] at ch h0 h1
    have tL : (s.l == 15) = false := beq_false hx
    have tZ : (s.l != 0) = true := by simpa using hz
    clear hx hy hz
    have HU : Hid (slideE s = s.ask 14 s.l 0) := hid (by exact (if_neg (fun e => HX.out e.1)).trans (if_pos ⟨HY.out, HZ.out⟩))
    go_enter Tryz.func105, Tryz.ntmps105
    go_wp2_with fail
    go_at_call 63
    refine (pask _ _ _ H.out (by have := HO.out; first | omega | (simp only [St.ask, List.length_append, List.length_cons, List.length_nil]; omega))).mono ?_
    rintro e w1 ⟨rfl, v1, r1, k, g⟩
    replace H := hid k
    replace G := hid (G.out.trans g)
    clear k g
    go_wp2
    go_end0
    rw [HU.out]
    exact ⟨rfl, _, _, H.out, G.out⟩
  · have HX := hid hx
    have HY := hid hy
    have HZ := hid hz
    rw [hy] at ch h0 h1
    rw [hz] at cl l0 l1
    clear hx hy hz
    have HU : Hid (slideE s = s.ask 12 15 0) := hid (by show (if s.l = 15 ∧ s.h ≠ 0 then _ else if s.h = 15 ∧ s.l ≠ 0 then _ else s.ask 12 s.h s.l) = _; rw [HY.out, HZ.out]; rfl)
    go_enter Tryz.func105, Tryz.ntmps105
    go_wp2
    go_still_tail 9, (by kernel_rfl)
    change wpList _ _ _ _ _ w.drew
    replace H := hid H.out.drew
    go_wp2_with fail
    go_at_call 63
    refine (pask _ _ _ H.out (by have := HO.out; first | omega | (simp only [St.ask, List.length_append, List.length_cons, List.length_nil]; omega))).mono ?_
    rintro e w1 ⟨rfl, v1, r1, k, g⟩
    replace H := hid k
    replace G := hid (G.out.trans g.drewl)
    clear k g
    go_wp2
    go_end0
    rw [HU.out]
    exact ⟨rfl, _, _, H.out, G.out⟩
  · have HX := hid hx
    have HY := hid hy
    have tL : (s.l == 15) = false := beq_false hx
    have tH : (s.h == 15) = false := beq_false hy
    clear hx hy
    have HU : Hid (slideE s = s.ask 12 s.h s.l) := hid (by exact (if_neg (fun e => HX.out e.1)).trans (if_neg (fun e => HY.out e.1)))
    go_enter Tryz.func105, Tryz.ntmps105
    go_wp2
    go_still_tail 9, (by kernel_rfl)
    change wpList _ _ _ _ _ w.drew
    replace H := hid H.out.drew
    go_wp2_with fail
    go_at_call 63
    refine (pask _ _ _ H.out (by have := HO.out; first | omega | (simp only [St.ask, List.length_append, List.length_cons, List.length_nil]; omega))).mono ?_
    rintro e w1 ⟨rfl, v1, r1, k, g⟩
    replace H := hid k
    replace G := hid (G.out.trans g.drewl)
    clear k g
    go_wp2
    go_end0
    rw [HU.out]
    exact ⟨rfl, _, _, H.out, G.out⟩
set_option maxHeartbeats 4000000 in
set_option maxRecDepth 100000 in
theorem ppitch (a c e : Int) (h : PAt b base d s v rc w) (hs : s.Ok 15) : Calls Tryz.prog 137 #[.pointer (some ⟨b, 0, none⟩), .int .i64 a, .int .i64 c, .int .i64 e] w (Ran b base d (bendE a c e s) v w) := by
  have cp := h.cp
  have ch := h.ch
  have cl := h.cl
  have H := hid h
  have G := hid (Steps.refl b v w)
  have HS := hid hs
  have HO := hid hs.O
  obtain ⟨p0, p1⟩ : 0 ≤ s.p ∧ s.p ≤ 255 := hs.p
  obtain ⟨h0, h1⟩ : 0 ≤ s.h ∧ s.h ≤ 15 := hs.h
  obtain ⟨l0, l1⟩ : 0 ≤ s.l ∧ s.l ≤ 15 := hs.l
  rcases (show 240 ≤ s.p ∨ (¬ 240 ≤ s.p ∧ 224 ≤ s.p) ∨ (¬ 240 ≤ s.p ∧ ¬ 224 ≤ s.p) by omega) with hc | ⟨hc, hc2⟩ | ⟨hc, hc2⟩
  clear h hs
  · have HU : Hid (bendE a c e s = s.ask c s.l 0) := hid (by exact if_pos hc)
    go_enter Tryz.func137, Tryz.ntmps137
    go_wp2_with fail
    go_at_call 63
    refine (pask _ _ _ H.out (by have := HO.out; first | omega | (simp only [St.ask, List.length_append, List.length_cons, List.length_nil]; omega))).mono ?_
    rintro e9 w1 ⟨rfl, v1, r1, k, g⟩
    replace H := hid k
    replace G := hid (G.out.trans g)
    clear k g
    go_wp2
    go_end0
    rw [HU.out]
    exact ⟨rfl, _, _, H.out, G.out⟩
  · have HU : Hid (bendE a c e s = s.ask e s.l 0) := hid (by exact (if_neg hc).trans (if_pos hc2))
    go_enter Tryz.func137, Tryz.ntmps137
    go_wp2_with fail
    go_at_call 63
    refine (pask _ _ _ H.out (by have := HO.out; first | omega | (simp only [St.ask, List.length_append, List.length_cons, List.length_nil]; omega))).mono ?_
    rintro e9 w1 ⟨rfl, v1, r1, k, g⟩
    replace H := hid k
    replace G := hid (G.out.trans g)
    clear k g
    go_wp2
    go_end0
    rw [HU.out]
    exact ⟨rfl, _, _, H.out, G.out⟩
  · have HU : Hid (bendE a c e s = s.ask a s.p 0) := hid (by exact (if_neg hc).trans (if_neg hc2))
    go_enter Tryz.func137, Tryz.ntmps137
    go_wp2_with fail
    go_at_call 63
    refine (pask _ _ _ H.out (by have := HO.out; first | omega | (simp only [St.ask, List.length_append, List.length_cons, List.length_nil]; omega))).mono ?_
    rintro e9 w1 ⟨rfl, v1, r1, k, g⟩
    replace H := hid k
    replace G := hid (G.out.trans g)
    clear k g
    go_wp2
    go_end0
    rw [HU.out]
    exact ⟨rfl, _, _, H.out, G.out⟩
set_option maxHeartbeats 4000000 in
set_option maxRecDepth 100000 in
theorem pfn106 (h : PAt b base d s v rc w) (hs : s.Ok 15) : Calls Tryz.prog 106 #[.pointer (some ⟨b, 0, none⟩)] w (Ran b base d (fnE 106 s) v w) := by
  have cp := h.cp
  have ch := h.ch
  have cl := h.cl
  have H := hid h
  have G := hid (Steps.refl b v w)
  have HS := hid hs
  have HO := hid hs.O
  obtain ⟨p0, p1⟩ : 0 ≤ s.p ∧ s.p ≤ 255 := hs.p
  obtain ⟨h0, h1⟩ : 0 ≤ s.h ∧ s.h ≤ 15 := hs.h
  obtain ⟨l0, l1⟩ : 0 ≤ s.l ∧ s.l ≤ 15 := hs.l
  clear h hs
  · have HU : Hid (fnE 106 s = bendE 3 5 7 s) := hid (by rfl)
    go_enter Tryz.func106, Tryz.ntmps106
    go_wp2_with fail
    go_at_call 137
    refine (ppitch 3 5 7 H.out HS.out).mono ?_
    rintro e w1 ⟨rfl, v1, r1, k, g⟩
    replace H := hid k
    replace G := hid (G.out.trans g)
    clear k g
    go_wp2
    go_end0
    rw [HU.out]
    exact ⟨rfl, _, _, H.out, G.out⟩
set_option maxHeartbeats 4000000 in
set_option maxRecDepth 100000 in
theorem pfn107 (h : PAt b base d s v rc w) (hs : s.Ok 15) : Calls Tryz.prog 107 #[.pointer (some ⟨b, 0, none⟩)] w (Ran b base d (fnE 107 s) v w) := by
  have cp := h.cp
  have ch := h.ch
  have cl := h.cl
  have H := hid h
  have G := hid (Steps.refl b v w)
  have HS := hid hs
  have HO := hid hs.O
  obtain ⟨p0, p1⟩ : 0 ≤ s.p ∧ s.p ≤ 255 := hs.p
  obtain ⟨h0, h1⟩ : 0 ≤ s.h ∧ s.h ≤ 15 := hs.h
  obtain ⟨l0, l1⟩ : 0 ≤ s.l ∧ s.l ≤ 15 := hs.l
  clear h hs
  · have HU : Hid (fnE 107 s = bendE 2 4 6 s) := hid (by rfl)
    go_enter Tryz.func107, Tryz.ntmps107
    go_wp2_with fail
    go_at_call 137
    refine (ppitch 2 4 6 H.out HS.out).mono ?_
    rintro e w1 ⟨rfl, v1, r1, k, g⟩
    replace H := hid k
    replace G := hid (G.out.trans g)
    clear k g
    go_wp2
    go_end0
    rw [HU.out]
    exact ⟨rfl, _, _, H.out, G.out⟩
set_option maxHeartbeats 4000000 in
set_option maxRecDepth 100000 in
theorem pfn90 (h : PAt b base d s v rc w) (hs : s.Ok 15) : Calls Tryz.prog 90 #[.pointer (some ⟨b, 0, none⟩)] w (Ran b base d (fnE 90 s) v w) := by
  have cp := h.cp
  have ch := h.ch
  have cl := h.cl
  have H := hid h
  have G := hid (Steps.refl b v w)
  have HS := hid hs
  have HO := hid hs.O
  obtain ⟨p0, p1⟩ : 0 ≤ s.p ∧ s.p ≤ 255 := hs.p
  obtain ⟨h0, h1⟩ : 0 ≤ s.h ∧ s.h ≤ 15 := hs.h
  obtain ⟨l0, l1⟩ : 0 ≤ s.l ∧ s.l ≤ 15 := hs.l
  clear h hs
  · have HU : Hid (fnE 90 s = (s.ask 9 (s.slot 2 / 16) (s.slot 2 % 16)).ask 12 s.h s.l) := hid (by rfl)
    go_enter Tryz.func90, Tryz.ntmps90
    go_wp2_with fail
    go_at_call 91
    refine (prec 2 (by omega) H.out HS.out).mono ?_
    rintro e w1 ⟨rfl, v1, r1, k, g⟩
    have cp : w1.cell? ⟨b, 27, none⟩ = some (.int .i64 s.p) := k.cp
    have ch : w1.cell? ⟨b, 28, none⟩ = some (.int .i64 s.h) := k.ch
    have cl : w1.cell? ⟨b, 29, none⟩ = some (.int .i64 s.l) := k.cl
    replace H := hid k
    replace G := hid (G.out.trans g)
    clear k g
    go_wp2
    go_still_tail 9, (by kernel_rfl)
    change wpList _ _ _ _ _ w1.drew
    replace H := hid H.out.drew
    go_wp2_with fail
    go_at_call 63
    refine (pask _ _ _ H.out (by have := HO.out; first | omega | (simp only [St.ask, List.length_append, List.length_cons, List.length_nil]; omega))).mono ?_
    rintro e w2 ⟨rfl, v2, r2, k, g⟩
    replace H := hid k
    replace G := hid (G.out.trans g.drewl)
    clear k g
    go_wp2
    go_end0
    rw [HU.out]
    exact ⟨rfl, _, _, H.out, G.out⟩
set_option maxHeartbeats 4000000 in
set_option maxRecDepth 100000 in
theorem pfn109 (h : PAt b base d s v rc w) (hs : s.Ok 15) : Calls Tryz.prog 109 #[.pointer (some ⟨b, 0, none⟩)] w (Ran b base d (fnE 109 s) v w) := by
  have cp := h.cp
  have ch := h.ch
  have cl := h.cl
  have H := hid h
  have G := hid (Steps.refl b v w)
  have HS := hid hs
  have HO := hid hs.O
  obtain ⟨p0, p1⟩ : 0 ≤ s.p ∧ s.p ≤ 255 := hs.p
  obtain ⟨h0, h1⟩ : 0 ≤ s.h ∧ s.h ≤ 15 := hs.h
  obtain ⟨l0, l1⟩ : 0 ≤ s.l ∧ s.l ≤ 15 := hs.l
  clear h hs
  · have HU : Hid (fnE 109 s = slideE (s.ask 9 (s.slot 3 / 16) (s.slot 3 % 16))) := hid (by rfl)
    go_enter Tryz.func109, Tryz.ntmps109
    go_wp2_with fail
    go_at_call 91
    refine (prec 3 (by omega) H.out HS.out).mono ?_
    rintro e w1 ⟨rfl, v1, r1, k, g⟩
    have cp : w1.cell? ⟨b, 27, none⟩ = some (.int .i64 s.p) := k.cp
    have ch : w1.cell? ⟨b, 28, none⟩ = some (.int .i64 s.h) := k.ch
    have cl : w1.cell? ⟨b, 29, none⟩ = some (.int .i64 s.l) := k.cl
    replace H := hid k
    replace G := hid (G.out.trans g)
    clear k g
    go_wp2_with fail
    go_at_call 105
    refine (pslide (O := s.O) H.out HS.out (by have := HO.out; simp only [St.ask, List.length_append, List.length_cons, List.length_nil]; omega)).mono ?_
    rintro e w2 ⟨rfl, v2, r2, k, g⟩
    replace H := hid k
    replace G := hid (G.out.trans g)
    clear k g
    go_wp2
    go_end0
    rw [HU.out]
    exact ⟨rfl, _, _, H.out, G.out⟩
set_option maxHeartbeats 4000000 in
set_option maxRecDepth 100000 in
theorem pfn110 (h : PAt b base d s v rc w) (hs : s.Ok 15) : Calls Tryz.prog 110 #[.pointer (some ⟨b, 0, none⟩)] w (Ran b base d (fnE 110 s) v w) := by
  have cp := h.cp
  have ch := h.ch
  have cl := h.cl
  have H := hid h
  have G := hid (Steps.refl b v w)
  have HS := hid hs
  have HO := hid hs.O
  obtain ⟨p0, p1⟩ : 0 ≤ s.p ∧ s.p ≤ 255 := hs.p
  obtain ⟨h0, h1⟩ : 0 ≤ s.h ∧ s.h ≤ 15 := hs.h
  obtain ⟨l0, l1⟩ : 0 ≤ s.l ∧ s.l ≤ 15 := hs.l
  clear h hs
  · have HU : Hid (fnE 110 s = slideE (s.ask 8 (s.slot 2) 0)) := hid (by rfl)
    go_enter Tryz.func110, Tryz.ntmps110
    go_wp2_with fail
    go_at_call 77
    refine (pslot 2 (by omega) H.out).mono ?_
    rintro e w1 ⟨rfl, k, g⟩
    have cp : w1.cell? ⟨b, 27, none⟩ = some (.int .i64 s.p) := k.cp
    have ch : w1.cell? ⟨b, 28, none⟩ = some (.int .i64 s.h) := k.ch
    have cl : w1.cell? ⟨b, 29, none⟩ = some (.int .i64 s.l) := k.cl
    replace H := hid k
    replace G := hid (G.out.trans g)
    clear k g
    go_wp2_with fail
    go_at_call 63
    refine (pask _ _ _ H.out (by have := HO.out; first | omega | (simp only [St.ask, List.length_append, List.length_cons, List.length_nil]; omega))).mono ?_
    rintro e w2 ⟨rfl, v2, r2, k, g⟩
    have cp : w2.cell? ⟨b, 27, none⟩ = some (.int .i64 s.p) := k.cp
    have ch : w2.cell? ⟨b, 28, none⟩ = some (.int .i64 s.h) := k.ch
    have cl : w2.cell? ⟨b, 29, none⟩ = some (.int .i64 s.l) := k.cl
    replace H := hid k
    replace G := hid (G.out.trans g)
    clear k g
    go_wp2_with fail
    go_at_call 105
    refine (pslide (O := s.O) H.out HS.out (by have := HO.out; simp only [St.ask, List.length_append, List.length_cons, List.length_nil]; omega)).mono ?_
    rintro e w3 ⟨rfl, v3, r3, k, g⟩
    replace H := hid k
    replace G := hid (G.out.trans g)
    clear k g
    go_wp2
    go_end0
    rw [HU.out]
    exact ⟨rfl, _, _, H.out, G.out⟩
end
end Go.Proofs.YtkpielgdfahanaaGreat
