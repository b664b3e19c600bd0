/- The reference: slide, bend, speed, rows, extended. -/
import Derived.Test.YtkpielgdfahanaaGreatRSt
import Derived.Test.YtkpielgdfahanaaGreatImp
namespace Go.Proofs.YtkpielgdfahanaaGreat
open Go.RowKit Go.Maps
section
variable {b base : Nat} {s : St} {v : Value} {w : World}
/-- Speed of a parameter that is not 0. -/
def speedE (s : St) : St := if s.p = 0 then s else s.ask 36 s.p 0
theorem impS_other {x : Int} (h3 : x ≠ 3) (h4 : x ≠ 4) (h7 : x ≠ 7) (h8 : x ≠ 8) (h9 : x ≠ 9) : impS x = timedE 11 x := by
  unfold impS upd
  rw [if_neg h9, if_neg h7, if_neg h8, if_neg h4, if_neg h3]
set_option maxHeartbeats 4000000 in
set_option maxRecDepth 100000 in
theorem rslide (h : RAt b base s v w) (hO : s.O.length ≤ 44) : Calls Tryz.prog 57 #[.pointer (some ⟨b, 0, none⟩)] w (RRan b base (slideE s) v w) := by
  have H := hid h
  have G := hid (Steps.refl b v w)
  have HO := hid hO
  clear h hO
  have hc : (s.l = 15 ∧ s.h ≠ 0) ∨ (s.l = 15 ∧ s.h = 0) ∨ (s.l ≠ 15 ∧ s.h = 15 ∧ s.l ≠ 0) ∨ (s.l = 0 ∧ s.h = 15) ∨ (s.l ≠ 15 ∧ s.h ≠ 15) := by omega
  rcases hc with hc | hc | hc | hc | hc
  · have f0 : (s.l == 15) = true := beq_true (by omega)
    have f1 : (s.h != 0) = true := by rw [bne_iff_ne]; omega
    have ch : w.cell? ⟨b, 27, none⟩ = some (.int .i64 s.h) := H.out.ch
    have cl : w.cell? ⟨b, 28, none⟩ = some (.int .i64 s.l) := H.out.cl
    have HL : Hid (slideE s = s.ask 13 s.h 0) := hid (by unfold slideE; (repeat' split) <;> first | rfl | (exfalso; omega))
    clear hc
    go_enter Tryz.func57, Tryz.ntmps57
    go_wp2_with fail
    go_at_call 39
    refine (rop _ _ _ H.out (by have := HO.out; (try simp only [St.ask_len]); omega)).mono ?_
    rintro e w1 ⟨rfl, v1, k, g⟩
    replace H := hid k
    replace G := hid (G.out.trans g)
    clear k g
    go_wp2
    go_end0
    rw [HL.out]
    exact ⟨rfl, _, H.out, G.out⟩
  · have f2 : (s.l == 15) = true := beq_true (by omega)
    have f3 : (s.h != 0) = false := by rw [bne_eq_false_iff_eq]; omega
    have f4 : (s.h == 15) = false := beq_false (by omega)
    have ch : w.cell? ⟨b, 27, none⟩ = some (.int .i64 s.h) := H.out.ch
    have cl : w.cell? ⟨b, 28, none⟩ = some (.int .i64 s.l) := H.out.cl
    have HL : Hid (slideE s = s.ask 12 s.h s.l) := hid (by unfold slideE; (repeat' split) <;> first | rfl | (exfalso; omega))
    clear hc
    go_enter Tryz.func57, Tryz.ntmps57
    go_wp2
    go_still_tail 9, (by kernel_rfl)
    change wpList _ _ _ _ _ w.drew
    replace H := hid H.out.drew
    go_wp2_with fail
    go_at_call 39
    refine (rop _ _ _ H.out (by have := HO.out; (try simp only [St.ask_len]); omega)).mono ?_
    rintro e w1 ⟨rfl, v1, k, g⟩
    replace H := hid k
    replace G := hid (G.out.trans g.drewl)
    clear k g
    go_wp2
    go_end0
    rw [HL.out]
    exact ⟨rfl, _, H.out, G.out⟩
  · have f5 : (s.l == 15) = false := beq_false (by omega)
    have f6 : (s.h == 15) = true := beq_true (by omega)
    have f7 : (s.l != 0) = true := by rw [bne_iff_ne]; omega
    have ch : w.cell? ⟨b, 27, none⟩ = some (.int .i64 s.h) := H.out.ch
    have cl : w.cell? ⟨b, 28, none⟩ = some (.int .i64 s.l) := H.out.cl
    have HL : Hid (slideE s = s.ask 14 s.l 0) := hid (by unfold slideE; (repeat' split) <;> first | rfl | (exfalso; omega))
    clear hc
    go_enter Tryz.func57, Tryz.ntmps57
    go_wp2_with fail
    go_at_call 39
    refine (rop _ _ _ H.out (by have := HO.out; (try simp only [St.ask_len]); omega)).mono ?_
    rintro e w1 ⟨rfl, v1, k, g⟩
    replace H := hid k
    replace G := hid (G.out.trans g)
    clear k g
    go_wp2
    go_end0
    rw [HL.out]
    exact ⟨rfl, _, H.out, G.out⟩
  · have f8 : (s.l == 15) = false := beq_false (by omega)
    have f9 : (s.h == 15) = true := beq_true (by omega)
    have f10 : (s.l != 0) = false := by rw [bne_eq_false_iff_eq]; omega
    have ch : w.cell? ⟨b, 27, none⟩ = some (.int .i64 s.h) := H.out.ch
    have cl : w.cell? ⟨b, 28, none⟩ = some (.int .i64 s.l) := H.out.cl
    have HL : Hid (slideE s = s.ask 12 s.h s.l) := hid (by unfold slideE; (repeat' split) <;> first | rfl | (exfalso; omega))
    clear hc
    go_enter Tryz.func57, Tryz.ntmps57
    go_wp2
    go_still_tail 9, (by kernel_rfl)
    change wpList _ _ _ _ _ w.drew
    replace H := hid H.out.drew
    go_wp2_with fail
    go_at_call 39
    refine (rop _ _ _ H.out (by have := HO.out; (try simp only [St.ask_len]); omega)).mono ?_
    rintro e w1 ⟨rfl, v1, k, g⟩
    replace H := hid k
    replace G := hid (G.out.trans g.drewl)
    clear k g
    go_wp2
    go_end0
    rw [HL.out]
    exact ⟨rfl, _, H.out, G.out⟩
  · have f11 : (s.l == 15) = false := beq_false (by omega)
    have f12 : (s.h == 15) = false := beq_false (by omega)
    have ch : w.cell? ⟨b, 27, none⟩ = some (.int .i64 s.h) := H.out.ch
    have cl : w.cell? ⟨b, 28, none⟩ = some (.int .i64 s.l) := H.out.cl
    have HL : Hid (slideE s = s.ask 12 s.h s.l) := hid (by unfold slideE; (repeat' split) <;> first | rfl | (exfalso; omega))
    clear hc
    go_enter Tryz.func57, Tryz.ntmps57
    go_wp2
    go_still_tail 9, (by kernel_rfl)
    change wpList _ _ _ _ _ w.drew
    replace H := hid H.out.drew
    go_wp2_with fail
    go_at_call 39
    refine (rop _ _ _ H.out (by have := HO.out; (try simp only [St.ask_len]); omega)).mono ?_
    rintro e w1 ⟨rfl, v1, k, g⟩
    replace H := hid k
    replace G := hid (G.out.trans g.drewl)
    clear k g
    go_wp2
    go_end0
    rw [HL.out]
    exact ⟨rfl, _, H.out, G.out⟩
set_option maxHeartbeats 4000000 in
set_option maxRecDepth 100000 in
theorem rbend (h : RAt b base s v w) (hO : s.O.length ≤ 44) (plain fine extra : Int) : Calls Tryz.prog 58 #[.pointer (some ⟨b, 0, none⟩), .int .i64 fine, .int .i64 extra, .int .i64 plain] w (RRan b base (bendE plain fine extra s) v w) := by
  have H := hid h
  have G := hid (Steps.refl b v w)
  have HO := hid hO
  clear h hO
  have hc : (240 ≤ s.p) ∨ (s.p < 240 ∧ 224 ≤ s.p) ∨ (s.p < 224) := by omega
  rcases hc with hc | hc | hc
  · have f13 : 240 ≤ s.p := by omega
    have cp : w.cell? ⟨b, 26, none⟩ = some (.int .i64 s.p) := H.out.cp
    have cl : w.cell? ⟨b, 28, none⟩ = some (.int .i64 s.l) := H.out.cl
    have HL : Hid (bendE plain fine extra s = s.ask fine s.l 0) := hid (by unfold bendE; (repeat' split) <;> first | rfl | (exfalso; omega))
    clear hc
    go_enter Tryz.func58, Tryz.ntmps58
    go_wp2_with fail
    go_at_call 39
    refine (rop _ _ _ H.out (by have := HO.out; (try simp only [St.ask_len]); omega)).mono ?_
    rintro e w1 ⟨rfl, v1, k, g⟩
    replace H := hid k
    replace G := hid (G.out.trans g)
    clear k g
    go_wp2
    go_end0
    rw [HL.out]
    exact ⟨rfl, _, H.out, G.out⟩
  · have f14 : s.p < 240 := by omega
    have f15 : 224 ≤ s.p := by omega
    have cp : w.cell? ⟨b, 26, none⟩ = some (.int .i64 s.p) := H.out.cp
    have cl : w.cell? ⟨b, 28, none⟩ = some (.int .i64 s.l) := H.out.cl
    have HL : Hid (bendE plain fine extra s = s.ask extra s.l 0) := hid (by unfold bendE; (repeat' split) <;> first | rfl | (exfalso; omega))
    clear hc
    go_enter Tryz.func58, Tryz.ntmps58
    go_wp2_with fail
    go_at_call 39
    refine (rop _ _ _ H.out (by have := HO.out; (try simp only [St.ask_len]); omega)).mono ?_
    rintro e w1 ⟨rfl, v1, k, g⟩
    replace H := hid k
    replace G := hid (G.out.trans g)
    clear k g
    go_wp2
    go_end0
    rw [HL.out]
    exact ⟨rfl, _, H.out, G.out⟩
  · have f16 : s.p < 240 := by omega
    have f17 : s.p < 224 := by omega
    have cp : w.cell? ⟨b, 26, none⟩ = some (.int .i64 s.p) := H.out.cp
    have cl : w.cell? ⟨b, 28, none⟩ = some (.int .i64 s.l) := H.out.cl
    have HL : Hid (bendE plain fine extra s = s.ask plain s.p 0) := hid (by unfold bendE; (repeat' split) <;> first | rfl | (exfalso; omega))
    clear hc
    go_enter Tryz.func58, Tryz.ntmps58
    go_wp2_with fail
    go_at_call 39
    refine (rop _ _ _ H.out (by have := HO.out; (try simp only [St.ask_len]); omega)).mono ?_
    rintro e w1 ⟨rfl, v1, k, g⟩
    replace H := hid k
    replace G := hid (G.out.trans g)
    clear k g
    go_wp2
    go_end0
    rw [HL.out]
    exact ⟨rfl, _, H.out, G.out⟩
set_option maxHeartbeats 4000000 in
set_option maxRecDepth 100000 in
theorem rspeed (h : RAt b base s v w) (hO : s.O.length ≤ 44) : Calls Tryz.prog 56 #[.pointer (some ⟨b, 0, none⟩)] w (RRan b base (speedE s) v w) := by
  have H := hid h
  have G := hid (Steps.refl b v w)
  have HO := hid hO
  clear h hO
  have hc : (s.p = 0) ∨ (s.p ≠ 0) := by omega
  rcases hc with hc | hc
  · have f18 : (s.p != 0) = false := by rw [bne_eq_false_iff_eq]; omega
    have cp : w.cell? ⟨b, 26, none⟩ = some (.int .i64 s.p) := H.out.cp
    have HL : Hid (speedE s = s) := hid (by unfold speedE; split <;> first | rfl | (exfalso; omega))
    clear hc
    go_enter Tryz.func56, Tryz.ntmps56
    go_wp2
    go_end0
    rw [HL.out]
    exact ⟨rfl, _, H.out, G.out⟩
  · have f19 : (s.p != 0) = true := by rw [bne_iff_ne]; omega
    have cp : w.cell? ⟨b, 26, none⟩ = some (.int .i64 s.p) := H.out.cp
    have HL : Hid (speedE s = s.ask 36 s.p 0) := hid (by unfold speedE; split <;> first | rfl | (exfalso; omega))
    clear hc
    go_enter Tryz.func56, Tryz.ntmps56
    go_wp2_with fail
    go_at_call 39
    refine (rop _ _ _ H.out (by have := HO.out; (try simp only [St.ask_len]); omega)).mono ?_
    rintro e w1 ⟨rfl, v1, k, g⟩
    replace H := hid k
    replace G := hid (G.out.trans g)
    clear k g
    go_wp2
    go_end0
    rw [HL.out]
    exact ⟨rfl, _, H.out, G.out⟩
set_option maxHeartbeats 4000000 in
set_option maxRecDepth 100000 in
theorem rrows (h : RAt b base s v w) (hO : s.O.length ≤ 44) : Calls Tryz.prog 59 #[.pointer (some ⟨b, 0, none⟩)] w (RRan b base (runE (timedE 11 s.h) s) v w) := by
  have H := hid h
  have G := hid (Steps.refl b v w)
  have HO := hid hO
  clear h hO
  have hc : (s.h = 11) ∨ (s.h = 12) ∨ (s.h = 13) ∨ (s.h = 14) ∨ (s.h ≠ 11 ∧ s.h ≠ 12 ∧ s.h ≠ 13 ∧ s.h ≠ 14) := by omega
  rcases hc with hc | hc | hc | hc | hc
  · have Eh : Hid (s.h = 11) := hid (by omega)
    have ch : w.cell? ⟨b, 27, none⟩ = some (.int .i64 11) := H.out.ch.trans (congrArg (fun z => some (Value.int .i64 z)) Eh.out)
    have cl : w.cell? ⟨b, 28, none⟩ = some (.int .i64 s.l) := H.out.cl
    have HL : Hid (runE (timedE 11 s.h) s = s.ask 34 s.l 0) := hid (by rw [hc]; rfl)
    clear hc
    go_enter Tryz.func59, Tryz.ntmps59
    go_wp2_with fail
    go_at_call 39
    refine (rop _ _ _ H.out (by have := HO.out; (try simp only [St.ask_len]); omega)).mono ?_
    rintro e w1 ⟨rfl, v1, k, g⟩
    replace H := hid k
    replace G := hid (G.out.trans g)
    clear k g
    go_wp2
    go_end0
    rw [HL.out]
    exact ⟨rfl, _, H.out, G.out⟩
  · have Eh : Hid (s.h = 12) := hid (by omega)
    have ch : w.cell? ⟨b, 27, none⟩ = some (.int .i64 12) := H.out.ch.trans (congrArg (fun z => some (Value.int .i64 z)) Eh.out)
    have cl : w.cell? ⟨b, 28, none⟩ = some (.int .i64 s.l) := H.out.cl
    have HL : Hid (runE (timedE 11 s.h) s = s.ask 21 s.l 0) := hid (by rw [hc]; rfl)
    clear hc
    go_enter Tryz.func59, Tryz.ntmps59
    go_wp2_with fail
    go_at_call 39
    refine (rop _ _ _ H.out (by have := HO.out; (try simp only [St.ask_len]); omega)).mono ?_
    rintro e w1 ⟨rfl, v1, k, g⟩
    replace H := hid k
    replace G := hid (G.out.trans g)
    clear k g
    go_wp2
    go_end0
    rw [HL.out]
    exact ⟨rfl, _, H.out, G.out⟩
  · have Eh : Hid (s.h = 13) := hid (by omega)
    have ch : w.cell? ⟨b, 27, none⟩ = some (.int .i64 13) := H.out.ch.trans (congrArg (fun z => some (Value.int .i64 z)) Eh.out)
    have cl : w.cell? ⟨b, 28, none⟩ = some (.int .i64 s.l) := H.out.cl
    have HL : Hid (runE (timedE 11 s.h) s = s.ask 22 s.l 0) := hid (by rw [hc]; rfl)
    clear hc
    go_enter Tryz.func59, Tryz.ntmps59
    go_wp2_with fail
    go_at_call 39
    refine (rop _ _ _ H.out (by have := HO.out; (try simp only [St.ask_len]); omega)).mono ?_
    rintro e w1 ⟨rfl, v1, k, g⟩
    replace H := hid k
    replace G := hid (G.out.trans g)
    clear k g
    go_wp2
    go_end0
    rw [HL.out]
    exact ⟨rfl, _, H.out, G.out⟩
  · have Eh : Hid (s.h = 14) := hid (by omega)
    have ch : w.cell? ⟨b, 27, none⟩ = some (.int .i64 14) := H.out.ch.trans (congrArg (fun z => some (Value.int .i64 z)) Eh.out)
    have cl : w.cell? ⟨b, 28, none⟩ = some (.int .i64 s.l) := H.out.cl
    have HL : Hid (runE (timedE 11 s.h) s = s.ask 35 s.l 0) := hid (by rw [hc]; rfl)
    clear hc
    go_enter Tryz.func59, Tryz.ntmps59
    go_wp2_with fail
    go_at_call 39
    refine (rop _ _ _ H.out (by have := HO.out; (try simp only [St.ask_len]); omega)).mono ?_
    rintro e w1 ⟨rfl, v1, k, g⟩
    replace H := hid k
    replace G := hid (G.out.trans g)
    clear k g
    go_wp2
    go_end0
    rw [HL.out]
    exact ⟨rfl, _, H.out, G.out⟩
  · have f20 : (s.h == 11) = false := beq_false (by omega)
    have f21 : (s.h == 12) = false := beq_false (by omega)
    have f22 : (s.h == 13) = false := beq_false (by omega)
    have f23 : (s.h == 14) = false := beq_false (by omega)
    have ch : w.cell? ⟨b, 27, none⟩ = some (.int .i64 s.h) := H.out.ch
    have cl : w.cell? ⟨b, 28, none⟩ = some (.int .i64 s.l) := H.out.cl
    have HL : Hid (runE (timedE 11 s.h) s = s) := hid (by unfold timedE; rw [if_neg (by omega), if_neg (by omega), if_neg (by omega), if_neg (by omega)]; rfl)
    clear hc
    go_enter Tryz.func59, Tryz.ntmps59
    go_wp2
    go_end0
    rw [HL.out]
    exact ⟨rfl, _, H.out, G.out⟩
set_option maxHeartbeats 4000000 in
set_option maxRecDepth 100000 in
theorem rext (h : RAt b base s v w) (hs : s.Ok 255) : Calls Tryz.prog 55 #[.pointer (some ⟨b, 0, none⟩)] w (RRan b base (runE (extE s.h) s) v w) := by
  have H := hid h
  have G := hid (Steps.refl b v w)
  have HS := hid hs
  have HO : Hid (s.O.length ≤ 40) := hid hs.O
  clear h hs
  have hb := And.intro HS.out.h (And.intro HS.out.l HS.out.p)
  have hc : (s.h = 1) ∨ (s.h = 2) ∨ (s.h = 4) ∨ (s.h = 6) ∨ (s.h = 7) ∨ (s.h = 8) ∨ (s.h = 9) ∨ (s.h = 10) ∨ (s.h = 11) ∨ (s.h = 12) ∨ (s.h = 13) ∨ (s.h = 14) ∨ (s.h = 3 ∧ 1 < s.l) ∨ (s.h = 3 ∧ s.l ≤ 1) ∨ (s.h = 5 ∧ 8 ≤ s.l) ∨ (s.h = 5 ∧ s.l < 8) ∨ (s.h = 0) ∨ (s.h = 15) := by omega
  rcases hc with hc | hc | hc | hc | hc | hc | hc | hc | hc | hc | hc | hc | hc | hc | hc | hc | hc | hc
  · have Eh : Hid (s.h = 1) := hid (by omega)
    have ch : w.cell? ⟨b, 27, none⟩ = some (.int .i64 1) := H.out.ch.trans (congrArg (fun z => some (Value.int .i64 z)) Eh.out)
    have cl : w.cell? ⟨b, 28, none⟩ = some (.int .i64 s.l) := H.out.cl
    obtain ⟨l0, l1⟩ : 0 ≤ s.l ∧ s.l ≤ 255 := HS.out.l
    have HL : Hid (runE (extE s.h) s = s.ask 4 s.l 0) := hid (by rw [hc]; rfl)
    clear hc hb
    go_enter Tryz.func55, Tryz.ntmps55
    go_wp2_with fail
    go_at_call 39
    refine (rop _ _ _ H.out (by have := HO.out; (try simp only [St.ask_len]); omega)).mono ?_
    rintro e w1 ⟨rfl, v1, k, g⟩
    replace H := hid k
    replace G := hid (G.out.trans g)
    clear k g
    go_wp2
    go_end0
    rw [HL.out]
    exact ⟨rfl, _, H.out, G.out⟩
  · have Eh : Hid (s.h = 2) := hid (by omega)
    have ch : w.cell? ⟨b, 27, none⟩ = some (.int .i64 2) := H.out.ch.trans (congrArg (fun z => some (Value.int .i64 z)) Eh.out)
    have cl : w.cell? ⟨b, 28, none⟩ = some (.int .i64 s.l) := H.out.cl
    obtain ⟨l0, l1⟩ : 0 ≤ s.l ∧ s.l ≤ 255 := HS.out.l
    have HL : Hid (runE (extE s.h) s = s.ask 5 s.l 0) := hid (by rw [hc]; rfl)
    clear hc hb
    go_enter Tryz.func55, Tryz.ntmps55
    go_wp2_with fail
    go_at_call 39
    refine (rop _ _ _ H.out (by have := HO.out; (try simp only [St.ask_len]); omega)).mono ?_
    rintro e w1 ⟨rfl, v1, k, g⟩
    replace H := hid k
    replace G := hid (G.out.trans g)
    clear k g
    go_wp2
    go_end0
    rw [HL.out]
    exact ⟨rfl, _, H.out, G.out⟩
  · have Eh : Hid (s.h = 4) := hid (by omega)
    have ch : w.cell? ⟨b, 27, none⟩ = some (.int .i64 4) := H.out.ch.trans (congrArg (fun z => some (Value.int .i64 z)) Eh.out)
    have cl : w.cell? ⟨b, 28, none⟩ = some (.int .i64 s.l) := H.out.cl
    obtain ⟨l0, l1⟩ : 0 ≤ s.l ∧ s.l ≤ 255 := HS.out.l
    have HL : Hid (runE (extE s.h) s = s.ask 25 (s.l % 4) 0) := hid (by rw [hc]; rfl)
    clear hc hb
    go_enter Tryz.func55, Tryz.ntmps55
    go_wp2_with fail
    go_at_call 39
    refine (rop _ _ _ H.out (by have := HO.out; (try simp only [St.ask_len]); omega)).mono ?_
    rintro e w1 ⟨rfl, v1, k, g⟩
    replace H := hid k
    replace G := hid (G.out.trans g)
    clear k g
    go_wp2
    go_end0
    rw [HL.out]
    exact ⟨rfl, _, H.out, G.out⟩
  · have Eh : Hid (s.h = 6) := hid (by omega)
    have ch : w.cell? ⟨b, 27, none⟩ = some (.int .i64 6) := H.out.ch.trans (congrArg (fun z => some (Value.int .i64 z)) Eh.out)
    have cl : w.cell? ⟨b, 28, none⟩ = some (.int .i64 s.l) := H.out.cl
    obtain ⟨l0, l1⟩ : 0 ≤ s.l ∧ s.l ≤ 255 := HS.out.l
    have HL : Hid (runE (extE s.h) s = s.ask 34 s.l 0) := hid (by rw [hc]; rfl)
    clear hc hb
    go_enter Tryz.func55, Tryz.ntmps55
    go_wp2_with fail
    go_at_call 39
    refine (rop _ _ _ H.out (by have := HO.out; (try simp only [St.ask_len]); omega)).mono ?_
    rintro e w1 ⟨rfl, v1, k, g⟩
    replace H := hid k
    replace G := hid (G.out.trans g)
    clear k g
    go_wp2
    go_end0
    rw [HL.out]
    exact ⟨rfl, _, H.out, G.out⟩
  · have Eh : Hid (s.h = 7) := hid (by omega)
    have ch : w.cell? ⟨b, 27, none⟩ = some (.int .i64 7) := H.out.ch.trans (congrArg (fun z => some (Value.int .i64 z)) Eh.out)
    have cl : w.cell? ⟨b, 28, none⟩ = some (.int .i64 s.l) := H.out.cl
    obtain ⟨l0, l1⟩ : 0 ≤ s.l ∧ s.l ≤ 255 := HS.out.l
    have HL : Hid (runE (extE s.h) s = s.ask 26 (s.l % 4) 0) := hid (by rw [hc]; rfl)
    clear hc hb
    go_enter Tryz.func55, Tryz.ntmps55
    go_wp2_with fail
    go_at_call 39
    refine (rop _ _ _ H.out (by have := HO.out; (try simp only [St.ask_len]); omega)).mono ?_
    rintro e w1 ⟨rfl, v1, k, g⟩
    replace H := hid k
    replace G := hid (G.out.trans g)
    clear k g
    go_wp2
    go_end0
    rw [HL.out]
    exact ⟨rfl, _, H.out, G.out⟩
  · have Eh : Hid (s.h = 8) := hid (by omega)
    have ch : w.cell? ⟨b, 27, none⟩ = some (.int .i64 8) := H.out.ch.trans (congrArg (fun z => some (Value.int .i64 z)) Eh.out)
    have cl : w.cell? ⟨b, 28, none⟩ = some (.int .i64 s.l) := H.out.cl
    obtain ⟨l0, l1⟩ : 0 ≤ s.l ∧ s.l ≤ 255 := HS.out.l
    have HL : Hid (runE (extE s.h) s = s.ask 16 (panV (17 * s.l)) 0) := hid (by rw [hc]; rfl)
    clear hc hb
    go_enter Tryz.func55, Tryz.ntmps55
    go_wp2_with fail
    go_at_call 54
    refine (rpan _ _ (by omega) (by omega)).mono ?_
    rintro e w0 ⟨rfl, rfl⟩
    go_wp2_with fail
    go_at_call 39
    refine (rop _ _ _ H.out (by have := HO.out; (try simp only [St.ask_len]); omega)).mono ?_
    rintro e w1 ⟨rfl, v1, k, g⟩
    replace H := hid k
    replace G := hid (G.out.trans g)
    clear k g
    go_wp2
    go_end0
    rw [HL.out]
    exact ⟨rfl, _, H.out, G.out⟩
  · have Eh : Hid (s.h = 9) := hid (by omega)
    have ch : w.cell? ⟨b, 27, none⟩ = some (.int .i64 9) := H.out.ch.trans (congrArg (fun z => some (Value.int .i64 z)) Eh.out)
    have cl : w.cell? ⟨b, 28, none⟩ = some (.int .i64 s.l) := H.out.cl
    obtain ⟨l0, l1⟩ : 0 ≤ s.l ∧ s.l ≤ 255 := HS.out.l
    have HL : Hid (runE (extE s.h) s = s.ask 19 s.l 0) := hid (by rw [hc]; rfl)
    clear hc hb
    go_enter Tryz.func55, Tryz.ntmps55
    go_wp2_with fail
    go_at_call 39
    refine (rop _ _ _ H.out (by have := HO.out; (try simp only [St.ask_len]); omega)).mono ?_
    rintro e w1 ⟨rfl, v1, k, g⟩
    replace H := hid k
    replace G := hid (G.out.trans g)
    clear k g
    go_wp2
    go_end0
    rw [HL.out]
    exact ⟨rfl, _, H.out, G.out⟩
  · have Eh : Hid (s.h = 10) := hid (by omega)
    have ch : w.cell? ⟨b, 27, none⟩ = some (.int .i64 10) := H.out.ch.trans (congrArg (fun z => some (Value.int .i64 z)) Eh.out)
    have cl : w.cell? ⟨b, 28, none⟩ = some (.int .i64 s.l) := H.out.cl
    obtain ⟨l0, l1⟩ : 0 ≤ s.l ∧ s.l ≤ 255 := HS.out.l
    have HL : Hid (runE (extE s.h) s = s.ask 13 s.l 0) := hid (by rw [hc]; rfl)
    clear hc hb
    go_enter Tryz.func55, Tryz.ntmps55
    go_wp2_with fail
    go_at_call 39
    refine (rop _ _ _ H.out (by have := HO.out; (try simp only [St.ask_len]); omega)).mono ?_
    rintro e w1 ⟨rfl, v1, k, g⟩
    replace H := hid k
    replace G := hid (G.out.trans g)
    clear k g
    go_wp2
    go_end0
    rw [HL.out]
    exact ⟨rfl, _, H.out, G.out⟩
  · have Eh : Hid (s.h = 11) := hid (by omega)
    have ch : w.cell? ⟨b, 27, none⟩ = some (.int .i64 11) := H.out.ch.trans (congrArg (fun z => some (Value.int .i64 z)) Eh.out)
    have cl : w.cell? ⟨b, 28, none⟩ = some (.int .i64 s.l) := H.out.cl
    obtain ⟨l0, l1⟩ : 0 ≤ s.l ∧ s.l ≤ 255 := HS.out.l
    have HL : Hid (runE (extE s.h) s = s.ask 14 s.l 0) := hid (by rw [hc]; rfl)
    clear hc hb
    go_enter Tryz.func55, Tryz.ntmps55
    go_wp2_with fail
    go_at_call 39
    refine (rop _ _ _ H.out (by have := HO.out; (try simp only [St.ask_len]); omega)).mono ?_
    rintro e w1 ⟨rfl, v1, k, g⟩
    replace H := hid k
    replace G := hid (G.out.trans g)
    clear k g
    go_wp2
    go_end0
    rw [HL.out]
    exact ⟨rfl, _, H.out, G.out⟩
  · have Eh : Hid (s.h = 12) := hid (by omega)
    have ch : w.cell? ⟨b, 27, none⟩ = some (.int .i64 12) := H.out.ch.trans (congrArg (fun z => some (Value.int .i64 z)) Eh.out)
    have cl : w.cell? ⟨b, 28, none⟩ = some (.int .i64 s.l) := H.out.cl
    obtain ⟨l0, l1⟩ : 0 ≤ s.l ∧ s.l ≤ 255 := HS.out.l
    have HL : Hid (runE (extE s.h) s = s.ask 21 s.l 0) := hid (by rw [hc]; rfl)
    clear hc hb
    go_enter Tryz.func55, Tryz.ntmps55
    go_wp2_with fail
    go_at_call 39
    refine (rop _ _ _ H.out (by have := HO.out; (try simp only [St.ask_len]); omega)).mono ?_
    rintro e w1 ⟨rfl, v1, k, g⟩
    replace H := hid k
    replace G := hid (G.out.trans g)
    clear k g
    go_wp2
    go_end0
    rw [HL.out]
    exact ⟨rfl, _, H.out, G.out⟩
  · have Eh : Hid (s.h = 13) := hid (by omega)
    have ch : w.cell? ⟨b, 27, none⟩ = some (.int .i64 13) := H.out.ch.trans (congrArg (fun z => some (Value.int .i64 z)) Eh.out)
    have cl : w.cell? ⟨b, 28, none⟩ = some (.int .i64 s.l) := H.out.cl
    obtain ⟨l0, l1⟩ : 0 ≤ s.l ∧ s.l ≤ 255 := HS.out.l
    have HL : Hid (runE (extE s.h) s = s.ask 22 s.l 0) := hid (by rw [hc]; rfl)
    clear hc hb
    go_enter Tryz.func55, Tryz.ntmps55
    go_wp2_with fail
    go_at_call 39
    refine (rop _ _ _ H.out (by have := HO.out; (try simp only [St.ask_len]); omega)).mono ?_
    rintro e w1 ⟨rfl, v1, k, g⟩
    replace H := hid k
    replace G := hid (G.out.trans g)
    clear k g
    go_wp2
    go_end0
    rw [HL.out]
    exact ⟨rfl, _, H.out, G.out⟩
  · have Eh : Hid (s.h = 14) := hid (by omega)
    have ch : w.cell? ⟨b, 27, none⟩ = some (.int .i64 14) := H.out.ch.trans (congrArg (fun z => some (Value.int .i64 z)) Eh.out)
    have cl : w.cell? ⟨b, 28, none⟩ = some (.int .i64 s.l) := H.out.cl
    obtain ⟨l0, l1⟩ : 0 ≤ s.l ∧ s.l ≤ 255 := HS.out.l
    have HL : Hid (runE (extE s.h) s = s.ask 35 s.l 0) := hid (by rw [hc]; rfl)
    clear hc hb
    go_enter Tryz.func55, Tryz.ntmps55
    go_wp2_with fail
    go_at_call 39
    refine (rop _ _ _ H.out (by have := HO.out; (try simp only [St.ask_len]); omega)).mono ?_
    rintro e w1 ⟨rfl, v1, k, g⟩
    replace H := hid k
    replace G := hid (G.out.trans g)
    clear k g
    go_wp2
    go_end0
    rw [HL.out]
    exact ⟨rfl, _, H.out, G.out⟩
  · have Eh : Hid (s.h = 3) := hid (by omega)
    have f24 : 1 < s.l := by omega
    have ch : w.cell? ⟨b, 27, none⟩ = some (.int .i64 3) := H.out.ch.trans (congrArg (fun z => some (Value.int .i64 z)) Eh.out)
    have cl : w.cell? ⟨b, 28, none⟩ = some (.int .i64 s.l) := H.out.cl
    obtain ⟨l0, l1⟩ : 0 ≤ s.l ∧ s.l ≤ 255 := HS.out.l
    have HL : Hid (runE (extE s.h) s = s.ask 24 1 0) := hid (by rw [hc.1]; show s.ask 24 (min s.l 1) 0 = _; congr 1; omega)
    clear hc hb
    go_enter Tryz.func55, Tryz.ntmps55
    go_wp2_with fail
    go_at_call 39
    refine (rop _ _ _ H.out (by have := HO.out; (try simp only [St.ask_len]); omega)).mono ?_
    rintro e w1 ⟨rfl, v1, k, g⟩
    replace H := hid k
    replace G := hid (G.out.trans g)
    clear k g
    go_wp2
    go_end0
    rw [HL.out]
    exact ⟨rfl, _, H.out, G.out⟩
  · have Eh : Hid (s.h = 3) := hid (by omega)
    have f25 : ¬ 1 < s.l := by omega
    have ch : w.cell? ⟨b, 27, none⟩ = some (.int .i64 3) := H.out.ch.trans (congrArg (fun z => some (Value.int .i64 z)) Eh.out)
    have cl : w.cell? ⟨b, 28, none⟩ = some (.int .i64 s.l) := H.out.cl
    obtain ⟨l0, l1⟩ : 0 ≤ s.l ∧ s.l ≤ 255 := HS.out.l
    have HL : Hid (runE (extE s.h) s = s.ask 24 s.l 0) := hid (by rw [hc.1]; show s.ask 24 (min s.l 1) 0 = _; congr 1; omega)
    clear hc hb
    go_enter Tryz.func55, Tryz.ntmps55
    go_wp2_with fail
    go_at_call 39
    refine (rop _ _ _ H.out (by have := HO.out; (try simp only [St.ask_len]); omega)).mono ?_
    rintro e w1 ⟨rfl, v1, k, g⟩
    replace H := hid k
    replace G := hid (G.out.trans g)
    clear k g
    go_wp2
    go_end0
    rw [HL.out]
    exact ⟨rfl, _, H.out, G.out⟩
  · have Eh : Hid (s.h = 5) := hid (by omega)
    have f26 : 8 ≤ s.l := by omega
    have ch : w.cell? ⟨b, 27, none⟩ = some (.int .i64 5) := H.out.ch.trans (congrArg (fun z => some (Value.int .i64 z)) Eh.out)
    have cl : w.cell? ⟨b, 28, none⟩ = some (.int .i64 s.l) := H.out.cl
    obtain ⟨l0, l1⟩ : 0 ≤ s.l ∧ s.l ≤ 255 := HS.out.l
    have HL : Hid (runE (extE s.h) s = s.ask 27 (8 * (s.l - 16)) 0) := hid (by rw [hc.1]; show (if 8 ≤ s.l then s.ask 27 (8 * (s.l - 16)) 0 else s.ask 27 (8 * s.l) 0) = _; split <;> first | rfl | (exfalso; omega))
    clear hc hb
    go_enter Tryz.func55, Tryz.ntmps55
    go_wp2_with fail
    go_at_call 39
    refine (rop _ _ _ H.out (by have := HO.out; (try simp only [St.ask_len]); omega)).mono ?_
    rintro e w1 ⟨rfl, v1, k, g⟩
    replace H := hid k
    replace G := hid (G.out.trans g)
    clear k g
    go_wp2
    go_end0
    rw [HL.out]
    exact ⟨rfl, _, H.out, G.out⟩
  · have Eh : Hid (s.h = 5) := hid (by omega)
    have f27 : ¬ 8 ≤ s.l := by omega
    have ch : w.cell? ⟨b, 27, none⟩ = some (.int .i64 5) := H.out.ch.trans (congrArg (fun z => some (Value.int .i64 z)) Eh.out)
    have cl : w.cell? ⟨b, 28, none⟩ = some (.int .i64 s.l) := H.out.cl
    obtain ⟨l0, l1⟩ : 0 ≤ s.l ∧ s.l ≤ 255 := HS.out.l
    have HL : Hid (runE (extE s.h) s = s.ask 27 (8 * s.l) 0) := hid (by rw [hc.1]; show (if 8 ≤ s.l then s.ask 27 (8 * (s.l - 16)) 0 else s.ask 27 (8 * s.l) 0) = _; split <;> first | rfl | (exfalso; omega))
    clear hc hb
    go_enter Tryz.func55, Tryz.ntmps55
    go_wp2_with fail
    go_at_call 39
    refine (rop _ _ _ H.out (by have := HO.out; (try simp only [St.ask_len]); omega)).mono ?_
    rintro e w1 ⟨rfl, v1, k, g⟩
    replace H := hid k
    replace G := hid (G.out.trans g)
    clear k g
    go_wp2
    go_end0
    rw [HL.out]
    exact ⟨rfl, _, H.out, G.out⟩
  · have Eh : Hid (s.h = 0) := hid (by omega)
    have ch : w.cell? ⟨b, 27, none⟩ = some (.int .i64 0) := H.out.ch.trans (congrArg (fun z => some (Value.int .i64 z)) Eh.out)
    have cl : w.cell? ⟨b, 28, none⟩ = some (.int .i64 s.l) := H.out.cl
    obtain ⟨l0, l1⟩ : 0 ≤ s.l ∧ s.l ≤ 255 := HS.out.l
    have HL : Hid (runE (extE s.h) s = s) := hid (by rw [hc]; rfl)
    clear hc hb
    go_enter Tryz.func55, Tryz.ntmps55
    go_wp2
    go_end0
    rw [HL.out]
    exact ⟨rfl, _, H.out, G.out⟩
  · have Eh : Hid (s.h = 15) := hid (by omega)
    have ch : w.cell? ⟨b, 27, none⟩ = some (.int .i64 15) := H.out.ch.trans (congrArg (fun z => some (Value.int .i64 z)) Eh.out)
    have cl : w.cell? ⟨b, 28, none⟩ = some (.int .i64 s.l) := H.out.cl
    obtain ⟨l0, l1⟩ : 0 ≤ s.l ∧ s.l ≤ 255 := HS.out.l
    have HL : Hid (runE (extE s.h) s = s) := hid (by rw [hc]; rfl)
    clear hc hb
    go_enter Tryz.func55, Tryz.ntmps55
    go_wp2
    go_end0
    rw [HL.out]
    exact ⟨rfl, _, H.out, G.out⟩
set_option maxHeartbeats 4000000 in
set_option maxRecDepth 100000 in
theorem rspecial (h : RAt b base s v w) (hs : s.Ok 15) : Calls Tryz.prog 61 #[.pointer (some ⟨b, 0, none⟩)] w (RRan b base (runE (impS s.h) s) v w) := by
  have H := hid h
  have G := hid (Steps.refl b v w)
  have HS := hid hs
  have HO : Hid (s.O.length ≤ 40) := hid hs.O
  clear h hs
  have hb := And.intro HS.out.h (And.intro HS.out.l HS.out.p)
  have hc : (s.h = 3) ∨ (s.h = 4) ∨ (s.h = 8) ∨ (s.h = 7 ∧ s.l ≤ 2) ∨ (s.h = 7 ∧ 2 < s.l ∧ s.l ≤ 6) ∨ (s.h = 7 ∧ 6 < s.l) ∨ (s.h = 9 ∧ s.l ≤ 1) ∨ (s.h = 9 ∧ s.l = 15) ∨ (s.h = 9 ∧ 1 < s.l ∧ s.l ≠ 15) ∨ (s.h ≠ 3 ∧ s.h ≠ 4 ∧ s.h ≠ 7 ∧ s.h ≠ 8 ∧ s.h ≠ 9) := by omega
  rcases hc with hc | hc | hc | hc | hc | hc | hc | hc | hc | hc
  · have Eh : Hid (s.h = 3) := hid (by omega)
    have ch : w.cell? ⟨b, 27, none⟩ = some (.int .i64 3) := H.out.ch.trans (congrArg (fun z => some (Value.int .i64 z)) Eh.out)
    have cl : w.cell? ⟨b, 28, none⟩ = some (.int .i64 s.l) := H.out.cl
    obtain ⟨l0, l1⟩ : 0 ≤ s.l ∧ s.l ≤ 15 := HS.out.l
    have HL : Hid (runE (impS s.h) s = runE (timedE 11 (s.ask 25 (s.l % 4) 0).h) (s.ask 25 (s.l % 4) 0)) := hid (by show runE (impS s.h) s = runE (timedE 11 s.h) (s.ask 25 (s.l % 4) 0); rw [hc]; rfl)
    clear hc hb
    go_enter Tryz.func61, Tryz.ntmps61
    go_wp2_with fail
    go_at_call 39
    refine (rop _ _ _ H.out (by have := HO.out; (try simp only [St.ask_len]); omega)).mono ?_
    rintro e w1 ⟨rfl, v1, k, g⟩
    replace H := hid k
    replace G := hid (G.out.trans g)
    clear k g
    have ch : w1.cell? ⟨b, 27, none⟩ = some (.int .i64 3) := H.out.ch.trans (congrArg (fun z => some (Value.int .i64 z)) Eh.out)
    have cl : w1.cell? ⟨b, 28, none⟩ = some (.int .i64 s.l) := H.out.cl
    go_wp2_with fail
    go_at_call 59
    refine (rrows H.out (by have := HO.out; (try simp only [St.ask_len]); omega)).mono ?_
    rintro e w2 ⟨rfl, v2, k, g⟩
    replace H := hid k
    replace G := hid (G.out.trans g)
    clear k g
    go_wp2
    go_end0
    rw [HL.out]
    exact ⟨rfl, _, H.out, G.out⟩
  · have Eh : Hid (s.h = 4) := hid (by omega)
    have ch : w.cell? ⟨b, 27, none⟩ = some (.int .i64 4) := H.out.ch.trans (congrArg (fun z => some (Value.int .i64 z)) Eh.out)
    have cl : w.cell? ⟨b, 28, none⟩ = some (.int .i64 s.l) := H.out.cl
    obtain ⟨l0, l1⟩ : 0 ≤ s.l ∧ s.l ≤ 15 := HS.out.l
    have HL : Hid (runE (impS s.h) s = runE (timedE 11 (s.ask 26 (s.l % 4) 0).h) (s.ask 26 (s.l % 4) 0)) := hid (by show runE (impS s.h) s = runE (timedE 11 s.h) (s.ask 26 (s.l % 4) 0); rw [hc]; rfl)
    clear hc hb
    go_enter Tryz.func61, Tryz.ntmps61
    go_wp2_with fail
    go_at_call 39
    refine (rop _ _ _ H.out (by have := HO.out; (try simp only [St.ask_len]); omega)).mono ?_
    rintro e w1 ⟨rfl, v1, k, g⟩
    replace H := hid k
    replace G := hid (G.out.trans g)
    clear k g
    have ch : w1.cell? ⟨b, 27, none⟩ = some (.int .i64 4) := H.out.ch.trans (congrArg (fun z => some (Value.int .i64 z)) Eh.out)
    have cl : w1.cell? ⟨b, 28, none⟩ = some (.int .i64 s.l) := H.out.cl
    go_wp2_with fail
    go_at_call 59
    refine (rrows H.out (by have := HO.out; (try simp only [St.ask_len]); omega)).mono ?_
    rintro e w2 ⟨rfl, v2, k, g⟩
    replace H := hid k
    replace G := hid (G.out.trans g)
    clear k g
    go_wp2
    go_end0
    rw [HL.out]
    exact ⟨rfl, _, H.out, G.out⟩
  · have Eh : Hid (s.h = 8) := hid (by omega)
    have ch : w.cell? ⟨b, 27, none⟩ = some (.int .i64 8) := H.out.ch.trans (congrArg (fun z => some (Value.int .i64 z)) Eh.out)
    have cl : w.cell? ⟨b, 28, none⟩ = some (.int .i64 s.l) := H.out.cl
    obtain ⟨l0, l1⟩ : 0 ≤ s.l ∧ s.l ≤ 15 := HS.out.l
    have HL : Hid (runE (impS s.h) s = runE (timedE 11 (s.ask 16 (panV (17 * s.l)) 0).h) (s.ask 16 (panV (17 * s.l)) 0)) := hid (by show runE (impS s.h) s = runE (timedE 11 s.h) (s.ask 16 (panV (17 * s.l)) 0); rw [hc]; rfl)
    clear hc hb
    go_enter Tryz.func61, Tryz.ntmps61
    go_wp2_with fail
    go_at_call 54
    refine (rpan _ _ (by omega) (by omega)).mono ?_
    rintro e w0 ⟨rfl, rfl⟩
    go_wp2_with fail
    go_at_call 39
    refine (rop _ _ _ H.out (by have := HO.out; (try simp only [St.ask_len]); omega)).mono ?_
    rintro e w1 ⟨rfl, v1, k, g⟩
    replace H := hid k
    replace G := hid (G.out.trans g)
    clear k g
    have ch : w1.cell? ⟨b, 27, none⟩ = some (.int .i64 8) := H.out.ch.trans (congrArg (fun z => some (Value.int .i64 z)) Eh.out)
    have cl : w1.cell? ⟨b, 28, none⟩ = some (.int .i64 s.l) := H.out.cl
    go_wp2_with fail
    go_at_call 59
    refine (rrows H.out (by have := HO.out; (try simp only [St.ask_len]); omega)).mono ?_
    rintro e w2 ⟨rfl, v2, k, g⟩
    replace H := hid k
    replace G := hid (G.out.trans g)
    clear k g
    go_wp2
    go_end0
    rw [HL.out]
    exact ⟨rfl, _, H.out, G.out⟩
  · have Eh : Hid (s.h = 7) := hid (by omega)
    have f28 : s.l ≤ 2 := by omega
    have ch : w.cell? ⟨b, 27, none⟩ = some (.int .i64 7) := H.out.ch.trans (congrArg (fun z => some (Value.int .i64 z)) Eh.out)
    have cl : w.cell? ⟨b, 28, none⟩ = some (.int .i64 s.l) := H.out.cl
    obtain ⟨l0, l1⟩ : 0 ≤ s.l ∧ s.l ≤ 15 := HS.out.l
    have HL : Hid (runE (impS s.h) s = runE (timedE 11 (s.ask 41 s.l 0).h) (s.ask 41 s.l 0)) := hid (by show runE (impS s.h) s = runE (timedE 11 s.h) (s.ask 41 s.l 0); rw [hc.1]; show (if s.l ≤ 2 then s.ask 41 s.l 0 else if s.l ≤ 6 then s.ask 40 (s.l - 3) 0 else s) = _; (repeat' split) <;> first | rfl | (exfalso; omega))
    clear hc hb
    go_enter Tryz.func61, Tryz.ntmps61
    go_wp2_with fail
    go_at_call 39
    refine (rop _ _ _ H.out (by have := HO.out; (try simp only [St.ask_len]); omega)).mono ?_
    rintro e w1 ⟨rfl, v1, k, g⟩
    replace H := hid k
    replace G := hid (G.out.trans g)
    clear k g
    have ch : w1.cell? ⟨b, 27, none⟩ = some (.int .i64 7) := H.out.ch.trans (congrArg (fun z => some (Value.int .i64 z)) Eh.out)
    have cl : w1.cell? ⟨b, 28, none⟩ = some (.int .i64 s.l) := H.out.cl
    go_wp2_with fail
    go_at_call 59
    refine (rrows H.out (by have := HO.out; (try simp only [St.ask_len]); omega)).mono ?_
    rintro e w2 ⟨rfl, v2, k, g⟩
    replace H := hid k
    replace G := hid (G.out.trans g)
    clear k g
    go_wp2
    go_end0
    rw [HL.out]
    exact ⟨rfl, _, H.out, G.out⟩
  · have Eh : Hid (s.h = 7) := hid (by omega)
    have f29 : ¬ s.l ≤ 2 := by omega
    have f30 : s.l ≤ 6 := by omega
    have ch : w.cell? ⟨b, 27, none⟩ = some (.int .i64 7) := H.out.ch.trans (congrArg (fun z => some (Value.int .i64 z)) Eh.out)
    have cl : w.cell? ⟨b, 28, none⟩ = some (.int .i64 s.l) := H.out.cl
    obtain ⟨l0, l1⟩ : 0 ≤ s.l ∧ s.l ≤ 15 := HS.out.l
    have HL : Hid (runE (impS s.h) s = runE (timedE 11 (s.ask 40 (s.l - 3) 0).h) (s.ask 40 (s.l - 3) 0)) := hid (by show runE (impS s.h) s = runE (timedE 11 s.h) (s.ask 40 (s.l - 3) 0); rw [hc.1]; show (if s.l ≤ 2 then s.ask 41 s.l 0 else if s.l ≤ 6 then s.ask 40 (s.l - 3) 0 else s) = _; (repeat' split) <;> first | rfl | (exfalso; omega))
    clear hc hb
    go_enter Tryz.func61, Tryz.ntmps61
    go_wp2_with fail
    go_at_call 39
    refine (rop _ _ _ H.out (by have := HO.out; (try simp only [St.ask_len]); omega)).mono ?_
    rintro e w1 ⟨rfl, v1, k, g⟩
    replace H := hid k
    replace G := hid (G.out.trans g)
    clear k g
    have ch : w1.cell? ⟨b, 27, none⟩ = some (.int .i64 7) := H.out.ch.trans (congrArg (fun z => some (Value.int .i64 z)) Eh.out)
    have cl : w1.cell? ⟨b, 28, none⟩ = some (.int .i64 s.l) := H.out.cl
    go_wp2_with fail
    go_at_call 59
    refine (rrows H.out (by have := HO.out; (try simp only [St.ask_len]); omega)).mono ?_
    rintro e w2 ⟨rfl, v2, k, g⟩
    replace H := hid k
    replace G := hid (G.out.trans g)
    clear k g
    go_wp2
    go_end0
    rw [HL.out]
    exact ⟨rfl, _, H.out, G.out⟩
  · have Eh : Hid (s.h = 7) := hid (by omega)
    have f31 : ¬ s.l ≤ 2 := by omega
    have f32 : ¬ s.l ≤ 6 := by omega
    have ch : w.cell? ⟨b, 27, none⟩ = some (.int .i64 7) := H.out.ch.trans (congrArg (fun z => some (Value.int .i64 z)) Eh.out)
    have cl : w.cell? ⟨b, 28, none⟩ = some (.int .i64 s.l) := H.out.cl
    obtain ⟨l0, l1⟩ : 0 ≤ s.l ∧ s.l ≤ 15 := HS.out.l
    have HL : Hid (runE (impS s.h) s = runE (timedE 11 (s).h) (s)) := hid (by show runE (impS s.h) s = runE (timedE 11 s.h) (s); rw [hc.1]; show (if s.l ≤ 2 then s.ask 41 s.l 0 else if s.l ≤ 6 then s.ask 40 (s.l - 3) 0 else s) = _; (repeat' split) <;> first | rfl | (exfalso; omega))
    clear hc hb
    go_enter Tryz.func61, Tryz.ntmps61
    go_wp2_with fail
    go_at_call 59
    refine (rrows H.out (by have := HO.out; (try simp only [St.ask_len]); omega)).mono ?_
    rintro e w1 ⟨rfl, v1, k, g⟩
    replace H := hid k
    replace G := hid (G.out.trans g)
    clear k g
    go_wp2
    go_end0
    rw [HL.out]
    exact ⟨rfl, _, H.out, G.out⟩
  · have Eh : Hid (s.h = 9) := hid (by omega)
    have f33 : s.l ≤ 1 := by omega
    have ch : w.cell? ⟨b, 27, none⟩ = some (.int .i64 9) := H.out.ch.trans (congrArg (fun z => some (Value.int .i64 z)) Eh.out)
    have cl : w.cell? ⟨b, 28, none⟩ = some (.int .i64 s.l) := H.out.cl
    obtain ⟨l0, l1⟩ : 0 ≤ s.l ∧ s.l ≤ 15 := HS.out.l
    have HL : Hid (runE (impS s.h) s = runE (timedE 11 (s.ask 44 s.l 0).h) (s.ask 44 s.l 0)) := hid (by show runE (impS s.h) s = runE (timedE 11 s.h) (s.ask 44 s.l 0); rw [hc.1]; show (if s.l ≤ 1 then s.ask 44 s.l 0 else if s.l = 15 then s.ask 45 1 0 else s) = _; (repeat' split) <;> first | rfl | (exfalso; omega))
    clear hc hb
    go_enter Tryz.func61, Tryz.ntmps61
    go_wp2_with fail
    go_at_call 39
    refine (rop _ _ _ H.out (by have := HO.out; (try simp only [St.ask_len]); omega)).mono ?_
    rintro e w1 ⟨rfl, v1, k, g⟩
    replace H := hid k
    replace G := hid (G.out.trans g)
    clear k g
    have ch : w1.cell? ⟨b, 27, none⟩ = some (.int .i64 9) := H.out.ch.trans (congrArg (fun z => some (Value.int .i64 z)) Eh.out)
    have cl : w1.cell? ⟨b, 28, none⟩ = some (.int .i64 s.l) := H.out.cl
    go_wp2_with fail
    go_at_call 59
    refine (rrows H.out (by have := HO.out; (try simp only [St.ask_len]); omega)).mono ?_
    rintro e w2 ⟨rfl, v2, k, g⟩
    replace H := hid k
    replace G := hid (G.out.trans g)
    clear k g
    go_wp2
    go_end0
    rw [HL.out]
    exact ⟨rfl, _, H.out, G.out⟩
  · have Eh : Hid (s.h = 9) := hid (by omega)
    have f34 : ¬ s.l ≤ 1 := by omega
    have f35 : (s.l == 15) = true := beq_true (by omega)
    have ch : w.cell? ⟨b, 27, none⟩ = some (.int .i64 9) := H.out.ch.trans (congrArg (fun z => some (Value.int .i64 z)) Eh.out)
    have cl : w.cell? ⟨b, 28, none⟩ = some (.int .i64 s.l) := H.out.cl
    obtain ⟨l0, l1⟩ : 0 ≤ s.l ∧ s.l ≤ 15 := HS.out.l
    have HL : Hid (runE (impS s.h) s = runE (timedE 11 (s.ask 45 1 0).h) (s.ask 45 1 0)) := hid (by show runE (impS s.h) s = runE (timedE 11 s.h) (s.ask 45 1 0); rw [hc.1]; show (if s.l ≤ 1 then s.ask 44 s.l 0 else if s.l = 15 then s.ask 45 1 0 else s) = _; (repeat' split) <;> first | rfl | (exfalso; omega))
    clear hc hb
    go_enter Tryz.func61, Tryz.ntmps61
    go_wp2_with fail
    go_at_call 39
    refine (rop _ _ _ H.out (by have := HO.out; (try simp only [St.ask_len]); omega)).mono ?_
    rintro e w1 ⟨rfl, v1, k, g⟩
    replace H := hid k
    replace G := hid (G.out.trans g)
    clear k g
    have ch : w1.cell? ⟨b, 27, none⟩ = some (.int .i64 9) := H.out.ch.trans (congrArg (fun z => some (Value.int .i64 z)) Eh.out)
    have cl : w1.cell? ⟨b, 28, none⟩ = some (.int .i64 s.l) := H.out.cl
    go_wp2_with fail
    go_at_call 59
    refine (rrows H.out (by have := HO.out; (try simp only [St.ask_len]); omega)).mono ?_
    rintro e w2 ⟨rfl, v2, k, g⟩
    replace H := hid k
    replace G := hid (G.out.trans g)
    clear k g
    go_wp2
    go_end0
    rw [HL.out]
    exact ⟨rfl, _, H.out, G.out⟩
  · have Eh : Hid (s.h = 9) := hid (by omega)
    have f36 : ¬ s.l ≤ 1 := by omega
    have f37 : (s.l == 15) = false := beq_false (by omega)
    have ch : w.cell? ⟨b, 27, none⟩ = some (.int .i64 9) := H.out.ch.trans (congrArg (fun z => some (Value.int .i64 z)) Eh.out)
    have cl : w.cell? ⟨b, 28, none⟩ = some (.int .i64 s.l) := H.out.cl
    obtain ⟨l0, l1⟩ : 0 ≤ s.l ∧ s.l ≤ 15 := HS.out.l
    have HL : Hid (runE (impS s.h) s = runE (timedE 11 (s).h) (s)) := hid (by show runE (impS s.h) s = runE (timedE 11 s.h) (s); rw [hc.1]; show (if s.l ≤ 1 then s.ask 44 s.l 0 else if s.l = 15 then s.ask 45 1 0 else s) = _; (repeat' split) <;> first | rfl | (exfalso; omega))
    clear hc hb
    go_enter Tryz.func61, Tryz.ntmps61
    go_wp2_with fail
    go_at_call 59
    refine (rrows H.out (by have := HO.out; (try simp only [St.ask_len]); omega)).mono ?_
    rintro e w1 ⟨rfl, v1, k, g⟩
    replace H := hid k
    replace G := hid (G.out.trans g)
    clear k g
    go_wp2
    go_end0
    rw [HL.out]
    exact ⟨rfl, _, H.out, G.out⟩
  · have f38 : (s.h == 3) = false := beq_false (by omega)
    have f39 : (s.h == 4) = false := beq_false (by omega)
    have f40 : (s.h == 7) = false := beq_false (by omega)
    have f41 : (s.h == 8) = false := beq_false (by omega)
    have f42 : (s.h == 9) = false := beq_false (by omega)
    have ch : w.cell? ⟨b, 27, none⟩ = some (.int .i64 s.h) := H.out.ch
    have cl : w.cell? ⟨b, 28, none⟩ = some (.int .i64 s.l) := H.out.cl
    obtain ⟨l0, l1⟩ : 0 ≤ s.l ∧ s.l ≤ 15 := HS.out.l
    have HL : Hid (runE (impS s.h) s = runE (timedE 11 s.h) s) := hid (by rw [impS_other (by omega) (by omega) (by omega) (by omega) (by omega)])
    clear hc hb
    go_enter Tryz.func61, Tryz.ntmps61
    go_wp2_with fail
    go_at_call 59
    refine (rrows H.out (by have := HO.out; (try simp only [St.ask_len]); omega)).mono ?_
    rintro e w1 ⟨rfl, v1, k, g⟩
    replace H := hid k
    replace G := hid (G.out.trans g)
    clear k g
    go_wp2
    go_end0
    rw [HL.out]
    exact ⟨rfl, _, H.out, G.out⟩
end
end Go.Proofs.YtkpielgdfahanaaGreat
