/- The reference's effects of four. -/
import Derived.Test.YtkpielgdfahanaaGreatRFn
import Derived.Test.YtkpielgdfahanaaGreatEff2
namespace Go.Proofs.YtkpielgdfahanaaGreat
open Go.RowKit Go.Maps
section
variable {b base : Nat} {s : St} {v : Value} {w : World}
set_option maxHeartbeats 1000000 in
set_option maxRecDepth 100000 in
theorem r43_48 (h : RAt b base s v w) (hs : s.Ok 15) : Calls Tryz.prog 43 #[.pointer (some ⟨b, 0, none⟩), .int .u8 48] w (RRan b base (runE (dialG 1 48) s) v w) := by
  have H := hid h
  have G := hid (Steps.refl b v w)
  have HS := hid hs
  have HO : Hid (s.O.length ≤ 40) := hid hs.O
  have HU : Hid (runE (dialG 1 48) s = if s.p = 0 then s else s.ask 1 s.h s.l) := hid (rfl)
  clear h hs
  have hb := And.intro HS.out.h (And.intro HS.out.l HS.out.p)
  have hc : (s.p = 0) ∨ (s.p ≠ 0) := by omega
  rcases hc with hc | hc
  · have f0 : (s.p != 0) = false := by rw [bne_eq_false_iff_eq]; omega
    have cp : w.cell? ⟨b, 26, none⟩ = some (.int .i64 s.p) := H.out.cp
    have ch : w.cell? ⟨b, 27, none⟩ = some (.int .i64 s.h) := H.out.ch
    have cl : w.cell? ⟨b, 28, none⟩ = some (.int .i64 s.l) := H.out.cl
    have HL : Hid ((if s.p = 0 then s else s.ask 1 s.h s.l) = (s)) := hid (by (repeat' split) <;> first | rfl | (exfalso; omega))
    clear hc hb
    go_enter Tryz.func43, Tryz.ntmps43
    go_wp2
    go_end0
    rw [HU.out, HL.out]
    exact ⟨rfl, _, H.out, G.out⟩
  · have f1 : (s.p != 0) = true := by rw [bne_iff_ne]; omega
    have cp : w.cell? ⟨b, 26, none⟩ = some (.int .i64 s.p) := H.out.cp
    have ch : w.cell? ⟨b, 27, none⟩ = some (.int .i64 s.h) := H.out.ch
    have cl : w.cell? ⟨b, 28, none⟩ = some (.int .i64 s.l) := H.out.cl
    have HL : Hid ((if s.p = 0 then s else s.ask 1 s.h s.l) = (s.ask 1 s.h s.l)) := hid (by (repeat' split) <;> first | rfl | (exfalso; omega))
    clear hc hb
    go_enter Tryz.func43, Tryz.ntmps43
    go_wp2
    go_still_tail 9, (by kernel_rfl)
    change wpList _ _ _ _ _ w.drew
    replace H := hid H.out.drew
    go_wp2_with fail
    go_at_call 39
    refine (rop _ _ _ H.out (by have := HO.out; (try simp only [St.ask_len]); omega)).mono ?_
    rintro e w1 ⟨rfl, v1, k, g⟩
    replace H := hid k
    replace G := hid (G.out.trans g.drewl)
    clear k g
    go_wp2
    go_end0
    rw [HU.out, HL.out]
    exact ⟨rfl, _, H.out, G.out⟩
set_option maxHeartbeats 1000000 in
set_option maxRecDepth 100000 in
theorem r43_49 (h : RAt b base s v w) (hs : s.Ok 15) : Calls Tryz.prog 43 #[.pointer (some ⟨b, 0, none⟩), .int .u8 49] w (RRan b base (runE (dialG 1 49) s) v w) := by
  have H := hid h
  have G := hid (Steps.refl b v w)
  have HS := hid hs
  have HO : Hid (s.O.length ≤ 40) := hid hs.O
  have HU : Hid (runE (dialG 1 49) s = s.ask 2 s.p 0) := hid (rfl)
  clear h hs
  have cp : w.cell? ⟨b, 26, none⟩ = some (.int .i64 s.p) := H.out.cp
  go_enter Tryz.func43, Tryz.ntmps43
  go_wp2_with fail
  go_at_call 39
  refine (rop _ _ _ H.out (by have := HO.out; (try simp only [St.ask_len]); omega)).mono ?_
  rintro e w1 ⟨rfl, v1, k, g⟩
  replace H := hid k
  replace G := hid (G.out.trans g)
  clear k g
  go_wp2
  go_end0
  rw [HU.out]
  exact ⟨rfl, _, H.out, G.out⟩
set_option maxHeartbeats 1000000 in
set_option maxRecDepth 100000 in
theorem r43_50 (h : RAt b base s v w) (hs : s.Ok 15) : Calls Tryz.prog 43 #[.pointer (some ⟨b, 0, none⟩), .int .u8 50] w (RRan b base (runE (dialG 1 50) s) v w) := by
  have H := hid h
  have G := hid (Steps.refl b v w)
  have HS := hid hs
  have HO : Hid (s.O.length ≤ 40) := hid hs.O
  have HU : Hid (runE (dialG 1 50) s = s.ask 3 s.p 0) := hid (rfl)
  clear h hs
  have cp : w.cell? ⟨b, 26, none⟩ = some (.int .i64 s.p) := H.out.cp
  go_enter Tryz.func43, Tryz.ntmps43
  go_wp2_with fail
  go_at_call 39
  refine (rop _ _ _ H.out (by have := HO.out; (try simp only [St.ask_len]); omega)).mono ?_
  rintro e w1 ⟨rfl, v1, k, g⟩
  replace H := hid k
  replace G := hid (G.out.trans g)
  clear k g
  go_wp2
  go_end0
  rw [HU.out]
  exact ⟨rfl, _, H.out, G.out⟩
set_option maxHeartbeats 1000000 in
set_option maxRecDepth 100000 in
theorem r43_51 (h : RAt b base s v w) (hs : s.Ok 15) : Calls Tryz.prog 43 #[.pointer (some ⟨b, 0, none⟩), .int .u8 51] w (RRan b base (runE (dialG 1 51) s) v w) := by
  have H := hid h
  have G := hid (Steps.refl b v w)
  have HS := hid hs
  have HO : Hid (s.O.length ≤ 40) := hid hs.O
  have HU : Hid (runE (dialG 1 51) s = (s.whole 1).ask 8 (s.whole 1).p 0) := hid (rfl)
  clear h hs
  have cp : w.cell? ⟨b, 26, none⟩ = some (.int .i64 s.p) := H.out.cp
  go_enter Tryz.func43, Tryz.ntmps43
  go_wp2_with fail
  go_at_call 41
  refine (rwhole 1 (by decide) H.out HS.out).mono ?_
  have HS2 := hid (St.Ok.whole HS.out (k := 1) (by decide))
  rintro e w1 ⟨rfl, v1, k, g⟩
  replace H := hid k
  replace G := hid (G.out.trans g)
  clear k g
  generalize hq1 : s.whole 1 = s1 at *
  clear hq1 HS HO cp
  have HS := HS2
  clear HS2
  have HO : Hid (s1.O.length ≤ 40) := hid HS.out.O
  have cp : w1.cell? ⟨b, 26, none⟩ = some (.int .i64 s1.p) := H.out.cp
  go_wp2_with fail
  go_at_call 39
  refine (rop _ _ _ H.out (by have := HO.out; (try simp only [St.ask_len]); omega)).mono ?_
  rintro e w2 ⟨rfl, v2, k, g⟩
  replace H := hid k
  replace G := hid (G.out.trans g)
  clear k g
  go_wp2
  go_end0
  rw [HU.out]
  exact ⟨rfl, _, H.out, G.out⟩
set_option maxHeartbeats 1000000 in
set_option maxRecDepth 100000 in
theorem r43_52 (h : RAt b base s v w) (hs : s.Ok 15) : Calls Tryz.prog 43 #[.pointer (some ⟨b, 0, none⟩), .int .u8 52] w (RRan b base (runE (dialG 1 52) s) v w) := by
  have H := hid h
  have G := hid (Steps.refl b v w)
  have HS := hid hs
  have HO : Hid (s.O.length ≤ 40) := hid hs.O
  have HU : Hid (runE (dialG 1 52) s = (s.halves 2).ask 9 (s.halves 2).h (s.halves 2).l) := hid (rfl)
  clear h hs
  have ch : w.cell? ⟨b, 27, none⟩ = some (.int .i64 s.h) := H.out.ch
  have cl : w.cell? ⟨b, 28, none⟩ = some (.int .i64 s.l) := H.out.cl
  go_enter Tryz.func43, Tryz.ntmps43
  go_wp2_with fail
  go_at_call 42
  refine (rhalves 2 (by decide) H.out HS.out).mono ?_
  have HS2 := hid (St.Ok.halves HS.out (k := 2) (by decide))
  rintro e w1 ⟨rfl, v1, k, g⟩
  replace H := hid k
  replace G := hid (G.out.trans g)
  clear k g
  generalize hq1 : s.halves 2 = s1 at *
  clear hq1 HS HO ch cl
  have HS := HS2
  clear HS2
  have HO : Hid (s1.O.length ≤ 40) := hid HS.out.O
  have ch : w1.cell? ⟨b, 27, none⟩ = some (.int .i64 s1.h) := H.out.ch
  have cl : w1.cell? ⟨b, 28, none⟩ = some (.int .i64 s1.l) := H.out.cl
  go_wp2
  go_still_tail 9, (by kernel_rfl)
  change wpList _ _ _ _ _ w1.drew
  replace H := hid H.out.drew
  go_wp2_with fail
  go_at_call 39
  refine (rop _ _ _ H.out (by have := HO.out; (try simp only [St.ask_len]); omega)).mono ?_
  rintro e w2 ⟨rfl, v2, k, g⟩
  replace H := hid k
  replace G := hid (G.out.trans g.drewl)
  clear k g
  go_wp2
  go_end0
  rw [HU.out]
  exact ⟨rfl, _, H.out, G.out⟩
set_option maxHeartbeats 1000000 in
set_option maxRecDepth 100000 in
theorem r43_53 (h : RAt b base s v w) (hs : s.Ok 15) : Calls Tryz.prog 43 #[.pointer (some ⟨b, 0, none⟩), .int .u8 53] w (RRan b base (runE (dialG 1 53) s) v w) := by
  have H := hid h
  have G := hid (Steps.refl b v w)
  have HS := hid hs
  have HO : Hid (s.O.length ≤ 40) := hid hs.O
  have HU : Hid (runE (dialG 1 53) s = (s.ask 8 (s.slot 1) 0).ask 12 s.h s.l) := hid (rfl)
  clear h hs
  have ch : w.cell? ⟨b, 27, none⟩ = some (.int .i64 s.h) := H.out.ch
  have cl : w.cell? ⟨b, 28, none⟩ = some (.int .i64 s.l) := H.out.cl
  have c1 : w.cell? ⟨b, 1, none⟩ = some (.int .i64 (s.slot 1)) := H.out.cM (by decide)
  go_enter Tryz.func43, Tryz.ntmps43
  go_wp2_with fail
  go_at_call 39
  refine (rop _ _ _ H.out (by have := HO.out; (try simp only [St.ask_len]); omega)).mono ?_
  rintro e w1 ⟨rfl, v1, k, g⟩
  replace H := hid k
  replace G := hid (G.out.trans g)
  clear k g
  have ch : w1.cell? ⟨b, 27, none⟩ = some (.int .i64 s.h) := H.out.ch
  have cl : w1.cell? ⟨b, 28, none⟩ = some (.int .i64 s.l) := H.out.cl
  have c1 : w1.cell? ⟨b, 1, none⟩ = some (.int .i64 (s.slot 1)) := H.out.cM (by decide)
  go_wp2
  go_still_tail 9, (by kernel_rfl)
  change wpList _ _ _ _ _ w1.drew
  replace H := hid H.out.drew
  go_wp2_with fail
  go_at_call 39
  refine (rop _ _ _ H.out (by have := HO.out; (try simp only [St.ask_len]); omega)).mono ?_
  rintro e w2 ⟨rfl, v2, k, g⟩
  replace H := hid k
  replace G := hid (G.out.trans g.drewl)
  clear k g
  go_wp2
  go_end0
  rw [HU.out]
  exact ⟨rfl, _, H.out, G.out⟩
set_option maxHeartbeats 1000000 in
set_option maxRecDepth 100000 in
theorem r43_54 (h : RAt b base s v w) (hs : s.Ok 15) : Calls Tryz.prog 43 #[.pointer (some ⟨b, 0, none⟩), .int .u8 54] w (RRan b base (runE (dialG 1 54) s) v w) := by
  have H := hid h
  have G := hid (Steps.refl b v w)
  have HS := hid hs
  have HO : Hid (s.O.length ≤ 40) := hid hs.O
  have HU : Hid (runE (dialG 1 54) s = (s.ask 9 (s.slot 2 / 16) (s.slot 2 % 16)).ask 12 s.h s.l) := hid (rfl)
  clear h hs
  have ch : w.cell? ⟨b, 27, none⟩ = some (.int .i64 s.h) := H.out.ch
  have cl : w.cell? ⟨b, 28, none⟩ = some (.int .i64 s.l) := H.out.cl
  have c2 : w.cell? ⟨b, 2, none⟩ = some (.int .i64 (s.slot 2)) := H.out.cM (by decide)
  obtain ⟨s20, s21⟩ : 0 ≤ s.slot 2 ∧ s.slot 2 ≤ 255 := HS.out.slots 2 (by decide)
  go_enter Tryz.func43, Tryz.ntmps43
  go_wp2
  go_still_tail 15, (by kernel_rfl)
  change wpList _ _ _ _ _ w.drew
  replace H := hid H.out.drew
  go_wp2_with fail
  go_at_call 39
  refine (rop _ _ _ H.out (by have := HO.out; (try simp only [St.ask_len]); omega)).mono ?_
  rintro e w1 ⟨rfl, v1, k, g⟩
  replace H := hid k
  replace G := hid (G.out.trans g.drewl)
  clear k g
  have ch : w1.cell? ⟨b, 27, none⟩ = some (.int .i64 s.h) := H.out.ch
  have cl : w1.cell? ⟨b, 28, none⟩ = some (.int .i64 s.l) := H.out.cl
  have c2 : w1.cell? ⟨b, 2, none⟩ = some (.int .i64 (s.slot 2)) := H.out.cM (by decide)
  go_wp2
  go_still_tail 9, (by kernel_rfl)
  change wpList _ _ _ _ _ w1.drew
  replace H := hid H.out.drew
  go_wp2_with fail
  go_at_call 39
  refine (rop _ _ _ H.out (by have := HO.out; (try simp only [St.ask_len]); omega)).mono ?_
  rintro e w2 ⟨rfl, v2, k, g⟩
  replace H := hid k
  replace G := hid (G.out.trans g.drewl)
  clear k g
  go_wp2
  go_end0
  rw [HU.out]
  exact ⟨rfl, _, H.out, G.out⟩
set_option maxHeartbeats 1000000 in
set_option maxRecDepth 100000 in
theorem r43_55 (h : RAt b base s v w) (hs : s.Ok 15) : Calls Tryz.prog 43 #[.pointer (some ⟨b, 0, none⟩), .int .u8 55] w (RRan b base (runE (dialG 1 55) s) v w) := by
  have H := hid h
  have G := hid (Steps.refl b v w)
  have HS := hid hs
  have HO : Hid (s.O.length ≤ 40) := hid hs.O
  have HU : Hid (runE (dialG 1 55) s = (s.halves 3).ask 11 (s.halves 3).h (s.halves 3).l) := hid (rfl)
  clear h hs
  have ch : w.cell? ⟨b, 27, none⟩ = some (.int .i64 s.h) := H.out.ch
  have cl : w.cell? ⟨b, 28, none⟩ = some (.int .i64 s.l) := H.out.cl
  go_enter Tryz.func43, Tryz.ntmps43
  go_wp2_with fail
  go_at_call 42
  refine (rhalves 3 (by decide) H.out HS.out).mono ?_
  have HS2 := hid (St.Ok.halves HS.out (k := 3) (by decide))
  rintro e w1 ⟨rfl, v1, k, g⟩
  replace H := hid k
  replace G := hid (G.out.trans g)
  clear k g
  generalize hq1 : s.halves 3 = s1 at *
  clear hq1 HS HO ch cl
  have HS := HS2
  clear HS2
  have HO : Hid (s1.O.length ≤ 40) := hid HS.out.O
  have ch : w1.cell? ⟨b, 27, none⟩ = some (.int .i64 s1.h) := H.out.ch
  have cl : w1.cell? ⟨b, 28, none⟩ = some (.int .i64 s1.l) := H.out.cl
  go_wp2
  go_still_tail 9, (by kernel_rfl)
  change wpList _ _ _ _ _ w1.drew
  replace H := hid H.out.drew
  go_wp2_with fail
  go_at_call 39
  refine (rop _ _ _ H.out (by have := HO.out; (try simp only [St.ask_len]); omega)).mono ?_
  rintro e w2 ⟨rfl, v2, k, g⟩
  replace H := hid k
  replace G := hid (G.out.trans g.drewl)
  clear k g
  go_wp2
  go_end0
  rw [HU.out]
  exact ⟨rfl, _, H.out, G.out⟩
set_option maxHeartbeats 1000000 in
set_option maxRecDepth 100000 in
theorem r43_56 (h : RAt b base s v w) (hs : s.Ok 15) : Calls Tryz.prog 43 #[.pointer (some ⟨b, 0, none⟩), .int .u8 56] w (RRan b base (runE (dialG 1 56) s) v w) := by
  have H := hid h
  have G := hid (Steps.refl b v w)
  have HS := hid hs
  have HO : Hid (s.O.length ≤ 40) := hid hs.O
  have HU : Hid (runE (dialG 1 56) s = s.ask 16 (panV s.p) 0) := hid (rfl)
  clear h hs
  have cp : w.cell? ⟨b, 26, none⟩ = some (.int .i64 s.p) := H.out.cp
  obtain ⟨p0, p1⟩ : 0 ≤ s.p ∧ s.p ≤ 255 := HS.out.p
  go_enter Tryz.func43, Tryz.ntmps43
  go_wp2_with fail
  go_at_call 54
  refine (rpan _ _ (by omega) (by omega)).mono ?_
  rintro e w0 ⟨rfl, rfl⟩
  go_wp2_with fail
  go_at_call 39
  refine (rop _ _ _ H.out (by have := HO.out; (try simp only [St.ask_len]); omega)).mono ?_
  rintro e w1 ⟨rfl, v1, k, g⟩
  replace H := hid k
  replace G := hid (G.out.trans g)
  clear k g
  go_wp2
  go_end0
  rw [HU.out]
  exact ⟨rfl, _, H.out, G.out⟩
set_option maxHeartbeats 1000000 in
set_option maxRecDepth 100000 in
theorem r43_57 (h : RAt b base s v w) (hs : s.Ok 15) : Calls Tryz.prog 43 #[.pointer (some ⟨b, 0, none⟩), .int .u8 57] w (RRan b base (runE (dialG 1 57) s) v w) := by
  have H := hid h
  have G := hid (Steps.refl b v w)
  have HS := hid hs
  have HO : Hid (s.O.length ≤ 40) := hid hs.O
  have HU : Hid (runE (dialG 1 57) s = (s.whole 4).ask 18 (256 * (s.whole 4).p) 0) := hid (rfl)
  clear h hs
  have cp : w.cell? ⟨b, 26, none⟩ = some (.int .i64 s.p) := H.out.cp
  obtain ⟨p0, p1⟩ : 0 ≤ s.p ∧ s.p ≤ 255 := HS.out.p
  go_enter Tryz.func43, Tryz.ntmps43
  go_wp2_with fail
  go_at_call 41
  refine (rwhole 4 (by decide) H.out HS.out).mono ?_
  have HS2 := hid (St.Ok.whole HS.out (k := 4) (by decide))
  rintro e w1 ⟨rfl, v1, k, g⟩
  replace H := hid k
  replace G := hid (G.out.trans g)
  clear k g
  generalize hq1 : s.whole 4 = s1 at *
  clear hq1 HS HO cp p0 p1
  have HS := HS2
  clear HS2
  have HO : Hid (s1.O.length ≤ 40) := hid HS.out.O
  have cp : w1.cell? ⟨b, 26, none⟩ = some (.int .i64 s1.p) := H.out.cp
  obtain ⟨p0, p1⟩ : 0 ≤ s1.p ∧ s1.p ≤ 255 := HS.out.p
  go_wp2_with fail
  go_at_call 39
  refine (rop _ _ _ H.out (by have := HO.out; (try simp only [St.ask_len]); omega)).mono ?_
  rintro e w2 ⟨rfl, v2, k, g⟩
  replace H := hid k
  replace G := hid (G.out.trans g)
  clear k g
  go_wp2
  go_end0
  rw [HU.out]
  exact ⟨rfl, _, H.out, G.out⟩
set_option maxHeartbeats 1000000 in
set_option maxRecDepth 100000 in
theorem r43_65 (h : RAt b base s v w) (hs : s.Ok 15) : Calls Tryz.prog 43 #[.pointer (some ⟨b, 0, none⟩), .int .u8 65] w (RRan b base (runE (dialG 1 65) s) v w) := by
  have H := hid h
  have G := hid (Steps.refl b v w)
  have HS := hid hs
  have HO : Hid (s.O.length ≤ 40) := hid hs.O
  have HU : Hid (runE (dialG 1 65) s = s.ask 12 s.h s.l) := hid (rfl)
  clear h hs
  have ch : w.cell? ⟨b, 27, none⟩ = some (.int .i64 s.h) := H.out.ch
  have cl : w.cell? ⟨b, 28, none⟩ = some (.int .i64 s.l) := H.out.cl
  go_enter Tryz.func43, Tryz.ntmps43
  go_wp2
  go_still_tail 9, (by kernel_rfl)
  change wpList _ _ _ _ _ w.drew
  replace H := hid H.out.drew
  go_wp2_with fail
  go_at_call 39
  refine (rop _ _ _ H.out (by have := HO.out; (try simp only [St.ask_len]); omega)).mono ?_
  rintro e w1 ⟨rfl, v1, k, g⟩
  replace H := hid k
  replace G := hid (G.out.trans g.drewl)
  clear k g
  go_wp2
  go_end0
  rw [HU.out]
  exact ⟨rfl, _, H.out, G.out⟩
set_option maxHeartbeats 1000000 in
set_option maxRecDepth 100000 in
theorem r43_66 (h : RAt b base s v w) (hs : s.Ok 15) : Calls Tryz.prog 43 #[.pointer (some ⟨b, 0, none⟩), .int .u8 66] w (RRan b base (runE (dialG 1 66) s) v w) := by
  have H := hid h
  have G := hid (Steps.refl b v w)
  have HS := hid hs
  have HO : Hid (s.O.length ≤ 40) := hid hs.O
  have HU : Hid (runE (dialG 1 66) s = s.ask 32 s.p 0) := hid (rfl)
  clear h hs
  have cp : w.cell? ⟨b, 26, none⟩ = some (.int .i64 s.p) := H.out.cp
  go_enter Tryz.func43, Tryz.ntmps43
  go_wp2_with fail
  go_at_call 39
  refine (rop _ _ _ H.out (by have := HO.out; (try simp only [St.ask_len]); omega)).mono ?_
  rintro e w1 ⟨rfl, v1, k, g⟩
  replace H := hid k
  replace G := hid (G.out.trans g)
  clear k g
  go_wp2
  go_end0
  rw [HU.out]
  exact ⟨rfl, _, H.out, G.out⟩
set_option maxHeartbeats 1000000 in
set_option maxRecDepth 100000 in
theorem r43_67 (h : RAt b base s v w) (hs : s.Ok 15) : Calls Tryz.prog 43 #[.pointer (some ⟨b, 0, none⟩), .int .u8 67] w (RRan b base (runE (dialG 1 67) s) v w) := by
  have H := hid h
  have G := hid (Steps.refl b v w)
  have HS := hid hs
  have HO : Hid (s.O.length ≤ 40) := hid hs.O
  have HU : Hid (runE (dialG 1 67) s = s.ask 15 (min s.p 64) 0) := hid (rfl)
  clear h hs
  have hb := And.intro HS.out.h (And.intro HS.out.l HS.out.p)
  have hc : (64 < s.p) ∨ (s.p ≤ 64) := by omega
  rcases hc with hc | hc
  · have f2 : 64 < s.p := by omega
    have cp : w.cell? ⟨b, 26, none⟩ = some (.int .i64 s.p) := H.out.cp
    have HL : Hid ((s.ask 15 (min s.p 64) 0) = (s.ask 15 (64) 0)) := hid (by show s.ask 15 (min s.p 64) 0 = _; congr 1; omega)
    clear hc hb
    go_enter Tryz.func43, Tryz.ntmps43
    go_wp2_with fail
    go_at_call 39
    refine (rop _ _ _ H.out (by have := HO.out; (try simp only [St.ask_len]); omega)).mono ?_
    rintro e w1 ⟨rfl, v1, k, g⟩
    replace H := hid k
    replace G := hid (G.out.trans g)
    clear k g
    go_wp2
    go_end0
    rw [HU.out, HL.out]
    exact ⟨rfl, _, H.out, G.out⟩
  · have f3 : ¬ 64 < s.p := by omega
    have cp : w.cell? ⟨b, 26, none⟩ = some (.int .i64 s.p) := H.out.cp
    have HL : Hid ((s.ask 15 (min s.p 64) 0) = (s.ask 15 (s.p) 0)) := hid (by show s.ask 15 (min s.p 64) 0 = _; congr 1; omega)
    clear hc hb
    go_enter Tryz.func43, Tryz.ntmps43
    go_wp2_with fail
    go_at_call 39
    refine (rop _ _ _ H.out (by have := HO.out; (try simp only [St.ask_len]); omega)).mono ?_
    rintro e w1 ⟨rfl, v1, k, g⟩
    replace H := hid k
    replace G := hid (G.out.trans g)
    clear k g
    go_wp2
    go_end0
    rw [HU.out, HL.out]
    exact ⟨rfl, _, H.out, G.out⟩
set_option maxHeartbeats 1000000 in
set_option maxRecDepth 100000 in
theorem r43_68 (h : RAt b base s v w) (hs : s.Ok 15) : Calls Tryz.prog 43 #[.pointer (some ⟨b, 0, none⟩), .int .u8 68] w (RRan b base (runE (dialG 1 68) s) v w) := by
  have H := hid h
  have G := hid (Steps.refl b v w)
  have HS := hid hs
  have HO : Hid (s.O.length ≤ 40) := hid hs.O
  have HU : Hid (runE (dialG 1 68) s = s.ask 33 (10 * s.h + s.l) 0) := hid (rfl)
  clear h hs
  have ch : w.cell? ⟨b, 27, none⟩ = some (.int .i64 s.h) := H.out.ch
  have cl : w.cell? ⟨b, 28, none⟩ = some (.int .i64 s.l) := H.out.cl
  obtain ⟨h0, h1⟩ : 0 ≤ s.h ∧ s.h ≤ 15 := HS.out.h
  obtain ⟨l0, l1⟩ : 0 ≤ s.l ∧ s.l ≤ 15 := HS.out.l
  go_enter Tryz.func43, Tryz.ntmps43
  go_wp2
  go_still_tail 11, (by kernel_rfl)
  change wpList _ _ _ _ _ w.drew
  replace H := hid H.out.drew
  go_wp2_with fail
  go_at_call 39
  refine (rop _ _ _ H.out (by have := HO.out; (try simp only [St.ask_len]); omega)).mono ?_
  rintro e w1 ⟨rfl, v1, k, g⟩
  replace H := hid k
  replace G := hid (G.out.trans g.drewl)
  clear k g
  go_wp2
  go_end0
  rw [HU.out]
  exact ⟨rfl, _, H.out, G.out⟩
set_option maxHeartbeats 1000000 in
set_option maxRecDepth 100000 in
theorem r43_69 (h : RAt b base s v w) (hs : s.Ok 255) : Calls Tryz.prog 43 #[.pointer (some ⟨b, 0, none⟩), .int .u8 69] w (RRan b base (runE (dialG 1 69) s) v w) := by
  have H := hid h
  have G := hid (Steps.refl b v w)
  have HS := hid hs
  have HO : Hid (s.O.length ≤ 40) := hid hs.O
  have HU : Hid (runE (dialG 1 69) s = runE (extE s.h) s) := hid (rfl)
  clear h hs
  go_enter Tryz.func43, Tryz.ntmps43
  go_wp2_with fail
  go_at_call 55
  refine (rext H.out HS.out).mono ?_
  rintro e w1 ⟨rfl, v1, k, g⟩
  replace H := hid k
  replace G := hid (G.out.trans g)
  clear k g
  go_wp2
  go_end0
  rw [HU.out]
  exact ⟨rfl, _, H.out, G.out⟩
set_option maxHeartbeats 1000000 in
set_option maxRecDepth 100000 in
theorem r43_70 (h : RAt b base s v w) (hs : s.Ok 15) : Calls Tryz.prog 43 #[.pointer (some ⟨b, 0, none⟩), .int .u8 70] w (RRan b base (runE (dialG 1 70) s) v w) := by
  have H := hid h
  have G := hid (Steps.refl b v w)
  have HS := hid hs
  have HO : Hid (s.O.length ≤ 40) := hid hs.O
  have HU : Hid (runE (dialG 1 70) s = if s.p < 32 then s.ask 36 s.p 0 else s.ask 37 s.p 0) := hid (rfl)
  clear h hs
  have hb := And.intro HS.out.h (And.intro HS.out.l HS.out.p)
  have hc : (s.p < 32) ∨ (32 ≤ s.p) := by omega
  rcases hc with hc | hc
  · have f4 : s.p < 32 := by omega
    have cp : w.cell? ⟨b, 26, none⟩ = some (.int .i64 s.p) := H.out.cp
    have HL : Hid ((if s.p < 32 then s.ask 36 s.p 0 else s.ask 37 s.p 0) = (s.ask 36 s.p 0)) := hid (by (repeat' split) <;> first | rfl | (exfalso; omega))
    clear hc hb
    go_enter Tryz.func43, Tryz.ntmps43
    go_wp2_with fail
    go_at_call 39
    refine (rop _ _ _ H.out (by have := HO.out; (try simp only [St.ask_len]); omega)).mono ?_
    rintro e w1 ⟨rfl, v1, k, g⟩
    replace H := hid k
    replace G := hid (G.out.trans g)
    clear k g
    go_wp2
    go_end0
    rw [HU.out, HL.out]
    exact ⟨rfl, _, H.out, G.out⟩
  · have f5 : ¬ s.p < 32 := by omega
    have cp : w.cell? ⟨b, 26, none⟩ = some (.int .i64 s.p) := H.out.cp
    have HL : Hid ((if s.p < 32 then s.ask 36 s.p 0 else s.ask 37 s.p 0) = (s.ask 37 s.p 0)) := hid (by (repeat' split) <;> first | rfl | (exfalso; omega))
    clear hc hb
    go_enter Tryz.func43, Tryz.ntmps43
    go_wp2_with fail
    go_at_call 39
    refine (rop _ _ _ H.out (by have := HO.out; (try simp only [St.ask_len]); omega)).mono ?_
    rintro e w1 ⟨rfl, v1, k, g⟩
    replace H := hid k
    replace G := hid (G.out.trans g)
    clear k g
    go_wp2
    go_end0
    rw [HU.out, HL.out]
    exact ⟨rfl, _, H.out, G.out⟩
end
end Go.Proofs.YtkpielgdfahanaaGreat
