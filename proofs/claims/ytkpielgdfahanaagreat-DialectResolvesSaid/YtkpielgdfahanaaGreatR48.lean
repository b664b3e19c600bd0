/- The reference's effects of chip. -/
import Derived.Test.YtkpielgdfahanaaGreatR43
namespace Go.Proofs.YtkpielgdfahanaaGreat
open Go.RowKit Go.Maps
section
variable {b base : Nat} {s : St} {v : Value} {w : World}
set_option maxHeartbeats 1000000 in
set_option maxRecDepth 100000 in
theorem r48_48 (h : RAt b base s v w) (hs : s.Ok 15) : Calls Tryz.prog 48 #[.pointer (some ⟨b, 0, none⟩), .int .u8 48] w (RRan b base (runE (dialG 6 48) s) v w) := by
  have H := hid h
  have G := hid (Steps.refl b v w)
  have HS := hid hs
  have HO : Hid (s.O.length ≤ 40) := hid hs.O
  have HU : Hid (runE (dialG 6 48) s = runE (dialG 1 48) s) := hid (rfl)
  clear h hs
  go_enter Tryz.func48, Tryz.ntmps48
  go_wp2_with fail
  go_at_call 43
  refine (r43_48 H.out HS.out).mono ?_
  rintro e w1 ⟨rfl, v1, k, g⟩
  replace H := hid k
  replace G := hid (G.out.trans g)
  clear k g
  go_wp2
  go_end0
  rw [HU.out]
  exact ⟨rfl, _, H.out, G.out⟩
set_option maxHeartbeats 1000000 in
set_option maxRecDepth 100000 in
theorem r48_66 (h : RAt b base s v w) (hs : s.Ok 15) : Calls Tryz.prog 48 #[.pointer (some ⟨b, 0, none⟩), .int .u8 66] w (RRan b base (runE (dialG 6 66) s) v w) := by
  have H := hid h
  have G := hid (Steps.refl b v w)
  have HS := hid hs
  have HO : Hid (s.O.length ≤ 40) := hid hs.O
  have HU : Hid (runE (dialG 6 66) s = runE (dialG 1 66) s) := hid (rfl)
  clear h hs
  go_enter Tryz.func48, Tryz.ntmps48
  go_wp2_with fail
  go_at_call 43
  refine (r43_66 H.out HS.out).mono ?_
  rintro e w1 ⟨rfl, v1, k, g⟩
  replace H := hid k
  replace G := hid (G.out.trans g)
  clear k g
  go_wp2
  go_end0
  rw [HU.out]
  exact ⟨rfl, _, H.out, G.out⟩
set_option maxHeartbeats 1000000 in
set_option maxRecDepth 100000 in
theorem r48_67 (h : RAt b base s v w) (hs : s.Ok 15) : Calls Tryz.prog 48 #[.pointer (some ⟨b, 0, none⟩), .int .u8 67] w (RRan b base (runE (dialG 6 67) s) v w) := by
  have H := hid h
  have G := hid (Steps.refl b v w)
  have HS := hid hs
  have HO : Hid (s.O.length ≤ 40) := hid hs.O
  have HU : Hid (runE (dialG 6 67) s = runE (dialG 1 67) s) := hid (rfl)
  clear h hs
  go_enter Tryz.func48, Tryz.ntmps48
  go_wp2_with fail
  go_at_call 43
  refine (r43_67 H.out HS.out).mono ?_
  rintro e w1 ⟨rfl, v1, k, g⟩
  replace H := hid k
  replace G := hid (G.out.trans g)
  clear k g
  go_wp2
  go_end0
  rw [HU.out]
  exact ⟨rfl, _, H.out, G.out⟩
set_option maxHeartbeats 1000000 in
set_option maxRecDepth 100000 in
theorem r48_49 (h : RAt b base s v w) (hs : s.Ok 15) : Calls Tryz.prog 48 #[.pointer (some ⟨b, 0, none⟩), .int .u8 49] w (RRan b base (runE (dialG 6 49) s) v w) := by
  have H := hid h
  have G := hid (Steps.refl b v w)
  have HS := hid hs
  have HO : Hid (s.O.length ≤ 40) := hid hs.O
  have HU : Hid (runE (dialG 6 49) s = (s.whole 5).ask 2 (s.whole 5).p 0) := hid (rfl)
  clear h hs
  have cp : w.cell? ⟨b, 26, none⟩ = some (.int .i64 s.p) := H.out.cp
  go_enter Tryz.func48, Tryz.ntmps48
  go_wp2_with fail
  go_at_call 41
  refine (rwhole 5 (by decide) H.out HS.out).mono ?_
  have HS2 := hid (St.Ok.whole HS.out (k := 5) (by decide))
  rintro e w1 ⟨rfl, v1, k, g⟩
  replace H := hid k
  replace G := hid (G.out.trans g)
  clear k g
  generalize hq1 : s.whole 5 = s1 at *
  clear hq1 HS HO cp
  have HS := HS2
  clear HS2
  have HO : Hid (s1.O.length ≤ 40) := hid HS.out.O
  have cp : w1.cell? ⟨b, 26, none⟩ = some (.int .i64 s1.p) := H.out.cp
  go_wp2_with fail
  go_at_call 39
  refine (rop _ _ _ H.out (by have := HO.out; (try simp only [St.ask_len]); omega)).mono ?_
  rintro e w2 ⟨rfl, v2, k, g⟩
  replace H := hid k
  replace G := hid (G.out.trans g)
  clear k g
  go_wp2
  go_end0
  rw [HU.out]
  exact ⟨rfl, _, H.out, G.out⟩
set_option maxHeartbeats 1000000 in
set_option maxRecDepth 100000 in
theorem r48_50 (h : RAt b base s v w) (hs : s.Ok 15) : Calls Tryz.prog 48 #[.pointer (some ⟨b, 0, none⟩), .int .u8 50] w (RRan b base (runE (dialG 6 50) s) v w) := by
  have H := hid h
  have G := hid (Steps.refl b v w)
  have HS := hid hs
  have HO : Hid (s.O.length ≤ 40) := hid hs.O
  have HU : Hid (runE (dialG 6 50) s = (s.whole 6).ask 3 (s.whole 6).p 0) := hid (rfl)
  clear h hs
  have cp : w.cell? ⟨b, 26, none⟩ = some (.int .i64 s.p) := H.out.cp
  go_enter Tryz.func48, Tryz.ntmps48
  go_wp2_with fail
  go_at_call 41
  refine (rwhole 6 (by decide) H.out HS.out).mono ?_
  have HS2 := hid (St.Ok.whole HS.out (k := 6) (by decide))
  rintro e w1 ⟨rfl, v1, k, g⟩
  replace H := hid k
  replace G := hid (G.out.trans g)
  clear k g
  generalize hq1 : s.whole 6 = s1 at *
  clear hq1 HS HO cp
  have HS := HS2
  clear HS2
  have HO : Hid (s1.O.length ≤ 40) := hid HS.out.O
  have cp : w1.cell? ⟨b, 26, none⟩ = some (.int .i64 s1.p) := H.out.cp
  go_wp2_with fail
  go_at_call 39
  refine (rop _ _ _ H.out (by have := HO.out; (try simp only [St.ask_len]); omega)).mono ?_
  rintro e w2 ⟨rfl, v2, k, g⟩
  replace H := hid k
  replace G := hid (G.out.trans g)
  clear k g
  go_wp2
  go_end0
  rw [HU.out]
  exact ⟨rfl, _, H.out, G.out⟩
set_option maxHeartbeats 1000000 in
set_option maxRecDepth 100000 in
theorem r48_51 (h : RAt b base s v w) (hs : s.Ok 15) : Calls Tryz.prog 48 #[.pointer (some ⟨b, 0, none⟩), .int .u8 51] w (RRan b base (runE (dialG 6 51) s) v w) := by
  have H := hid h
  have G := hid (Steps.refl b v w)
  have HS := hid hs
  have HO : Hid (s.O.length ≤ 40) := hid hs.O
  have HU : Hid (runE (dialG 6 51) s = (s.whole 1).ask 8 (s.whole 1).p 0) := hid (rfl)
  clear h hs
  have cp : w.cell? ⟨b, 26, none⟩ = some (.int .i64 s.p) := H.out.cp
  go_enter Tryz.func48, Tryz.ntmps48
  go_wp2_with fail
  go_at_call 41
  refine (rwhole 1 (by decide) H.out HS.out).mono ?_
  have HS2 := hid (St.Ok.whole HS.out (k := 1) (by decide))
  rintro e w1 ⟨rfl, v1, k, g⟩
  replace H := hid k
  replace G := hid (G.out.trans g)
  clear k g
  generalize hq1 : s.whole 1 = s1 at *
  clear hq1 HS HO cp
  have HS := HS2
  clear HS2
  have HO : Hid (s1.O.length ≤ 40) := hid HS.out.O
  have cp : w1.cell? ⟨b, 26, none⟩ = some (.int .i64 s1.p) := H.out.cp
  go_wp2_with fail
  go_at_call 39
  refine (rop _ _ _ H.out (by have := HO.out; (try simp only [St.ask_len]); omega)).mono ?_
  rintro e w2 ⟨rfl, v2, k, g⟩
  replace H := hid k
  replace G := hid (G.out.trans g)
  clear k g
  go_wp2
  go_end0
  rw [HU.out]
  exact ⟨rfl, _, H.out, G.out⟩
set_option maxHeartbeats 1000000 in
set_option maxRecDepth 100000 in
theorem r48_52 (h : RAt b base s v w) (hs : s.Ok 15) : Calls Tryz.prog 48 #[.pointer (some ⟨b, 0, none⟩), .int .u8 52] w (RRan b base (runE (dialG 6 52) s) v w) := by
  have H := hid h
  have G := hid (Steps.refl b v w)
  have HS := hid hs
  have HO : Hid (s.O.length ≤ 40) := hid hs.O
  have HU : Hid (runE (dialG 6 52) s = (s.halves 2).ask 9 (s.halves 2).h (s.halves 2).l) := hid (rfl)
  clear h hs
  have ch : w.cell? ⟨b, 27, none⟩ = some (.int .i64 s.h) := H.out.ch
  have cl : w.cell? ⟨b, 28, none⟩ = some (.int .i64 s.l) := H.out.cl
  go_enter Tryz.func48, Tryz.ntmps48
  go_wp2_with fail
  go_at_call 42
  refine (rhalves 2 (by decide) H.out HS.out).mono ?_
  have HS2 := hid (St.Ok.halves HS.out (k := 2) (by decide))
  rintro e w1 ⟨rfl, v1, k, g⟩
  replace H := hid k
  replace G := hid (G.out.trans g)
  clear k g
  generalize hq1 : s.halves 2 = s1 at *
  clear hq1 HS HO ch cl
  have HS := HS2
  clear HS2
  have HO : Hid (s1.O.length ≤ 40) := hid HS.out.O
  have ch : w1.cell? ⟨b, 27, none⟩ = some (.int .i64 s1.h) := H.out.ch
  have cl : w1.cell? ⟨b, 28, none⟩ = some (.int .i64 s1.l) := H.out.cl
  go_wp2
  go_still_tail 9, (by kernel_rfl)
  change wpList _ _ _ _ _ w1.drew
  replace H := hid H.out.drew
  go_wp2_with fail
  go_at_call 39
  refine (rop _ _ _ H.out (by have := HO.out; (try simp only [St.ask_len]); omega)).mono ?_
  rintro e w2 ⟨rfl, v2, k, g⟩
  replace H := hid k
  replace G := hid (G.out.trans g.drewl)
  clear k g
  go_wp2
  go_end0
  rw [HU.out]
  exact ⟨rfl, _, H.out, G.out⟩
set_option maxHeartbeats 1000000 in
set_option maxRecDepth 100000 in
theorem r48_65 (h : RAt b base s v w) (hs : s.Ok 15) : Calls Tryz.prog 48 #[.pointer (some ⟨b, 0, none⟩), .int .u8 65] w (RRan b base (runE (dialG 6 65) s) v w) := by
  have H := hid h
  have G := hid (Steps.refl b v w)
  have HS := hid hs
  have HO : Hid (s.O.length ≤ 40) := hid hs.O
  have HU : Hid (runE (dialG 6 65) s = (s.whole 7).ask 12 (s.whole 7).h (s.whole 7).l) := hid (rfl)
  clear h hs
  have ch : w.cell? ⟨b, 27, none⟩ = some (.int .i64 s.h) := H.out.ch
  have cl : w.cell? ⟨b, 28, none⟩ = some (.int .i64 s.l) := H.out.cl
  go_enter Tryz.func48, Tryz.ntmps48
  go_wp2_with fail
  go_at_call 41
  refine (rwhole 7 (by decide) H.out HS.out).mono ?_
  have HS2 := hid (St.Ok.whole HS.out (k := 7) (by decide))
  rintro e w1 ⟨rfl, v1, k, g⟩
  replace H := hid k
  replace G := hid (G.out.trans g)
  clear k g
  generalize hq1 : s.whole 7 = s1 at *
  clear hq1 HS HO ch cl
  have HS := HS2
  clear HS2
  have HO : Hid (s1.O.length ≤ 40) := hid HS.out.O
  have ch : w1.cell? ⟨b, 27, none⟩ = some (.int .i64 s1.h) := H.out.ch
  have cl : w1.cell? ⟨b, 28, none⟩ = some (.int .i64 s1.l) := H.out.cl
  go_wp2
  go_still_tail 9, (by kernel_rfl)
  change wpList _ _ _ _ _ w1.drew
  replace H := hid H.out.drew
  go_wp2_with fail
  go_at_call 39
  refine (rop _ _ _ H.out (by have := HO.out; (try simp only [St.ask_len]); omega)).mono ?_
  rintro e w2 ⟨rfl, v2, k, g⟩
  replace H := hid k
  replace G := hid (G.out.trans g.drewl)
  clear k g
  go_wp2
  go_end0
  rw [HU.out]
  exact ⟨rfl, _, H.out, G.out⟩
set_option maxHeartbeats 1000000 in
set_option maxRecDepth 100000 in
theorem r48_68 (h : RAt b base s v w) (hs : s.Ok 15) : Calls Tryz.prog 48 #[.pointer (some ⟨b, 0, none⟩), .int .u8 68] w (RRan b base (runE (dialG 6 68) s) v w) := by
  have H := hid h
  have G := hid (Steps.refl b v w)
  have HS := hid hs
  have HO : Hid (s.O.length ≤ 40) := hid hs.O
  have HU : Hid (runE (dialG 6 68) s = s.ask 33 s.p 0) := hid (rfl)
  clear h hs
  have cp : w.cell? ⟨b, 26, none⟩ = some (.int .i64 s.p) := H.out.cp
  go_enter Tryz.func48, Tryz.ntmps48
  go_wp2_with fail
  go_at_call 39
  refine (rop _ _ _ H.out (by have := HO.out; (try simp only [St.ask_len]); omega)).mono ?_
  rintro e w1 ⟨rfl, v1, k, g⟩
  replace H := hid k
  replace G := hid (G.out.trans g)
  clear k g
  go_wp2
  go_end0
  rw [HU.out]
  exact ⟨rfl, _, H.out, G.out⟩
set_option maxHeartbeats 1000000 in
set_option maxRecDepth 100000 in
theorem r48_69 (h : RAt b base s v w) (hs : s.Ok 15) : Calls Tryz.prog 48 #[.pointer (some ⟨b, 0, none⟩), .int .u8 69] w (RRan b base (runE (dialG 6 69) s) v w) := by
  have H := hid h
  have G := hid (Steps.refl b v w)
  have HS := hid hs
  have HO : Hid (s.O.length ≤ 40) := hid hs.O
  have HU : Hid (runE (dialG 6 69) s = runE (timedE 6 s.h) s) := hid (rfl)
  clear h hs
  have hb := And.intro HS.out.h (And.intro HS.out.l HS.out.p)
  have hc : (s.h = 6) ∨ (s.h = 15) ∨ (s.h ≠ 6 ∧ s.h < 12) ∨ (s.h = 12) ∨ (s.h = 13) ∨ (s.h = 14) := by omega
  rcases hc with hc | hc | hc | hc | hc | hc
  · have f57 : (s.h == 6) = true := beq_true (by omega)
    have ch : w.cell? ⟨b, 27, none⟩ = some (.int .i64 s.h) := H.out.ch
    have HL : Hid ((runE (timedE 6 s.h) s) = (runE (extE s.h) s)) := hid (by rw [hc]; rfl)
    clear hc hb
    go_enter Tryz.func48, Tryz.ntmps48
    go_wp2_with fail
    go_at_call 55
    refine (rext H.out (HS.out.more (by decide))).mono ?_
    rintro e w1 ⟨rfl, v1, k, g⟩
    replace H := hid k
    replace G := hid (G.out.trans g)
    clear k g
    go_wp2
    go_end0
    rw [HU.out, HL.out]
    exact ⟨rfl, _, H.out, G.out⟩
  · have f58 : (s.h == 6) = false := beq_false (by omega)
    have f59 : 12 ≤ s.h := by omega
    have ch : w.cell? ⟨b, 27, none⟩ = some (.int .i64 s.h) := H.out.ch
    have HL : Hid ((runE (timedE 6 s.h) s) = (runE (extE s.h) s)) := hid (by rw [hc]; rfl)
    clear hc hb
    go_enter Tryz.func48, Tryz.ntmps48
    go_wp2_with fail
    go_at_call 55
    refine (rext H.out (HS.out.more (by decide))).mono ?_
    rintro e w1 ⟨rfl, v1, k, g⟩
    replace H := hid k
    replace G := hid (G.out.trans g)
    clear k g
    go_wp2
    go_end0
    rw [HU.out, HL.out]
    exact ⟨rfl, _, H.out, G.out⟩
  · have f60 : (s.h == 6) = false := beq_false (by omega)
    have f61 : ¬ 12 ≤ s.h := by omega
    have ch : w.cell? ⟨b, 27, none⟩ = some (.int .i64 s.h) := H.out.ch
    have HL : Hid ((runE (timedE 6 s.h) s) = (s)) := hid (by unfold timedE; rw [if_neg (by omega), if_neg (by omega), if_neg (by omega), if_neg (by omega)]; rfl)
    clear hc hb
    go_enter Tryz.func48, Tryz.ntmps48
    go_wp2
    go_end0
    rw [HU.out, HL.out]
    exact ⟨rfl, _, H.out, G.out⟩
  · have f62 : (s.h == 6) = false := beq_false (by omega)
    have f63 : 12 ≤ s.h := by omega
    have ch : w.cell? ⟨b, 27, none⟩ = some (.int .i64 s.h) := H.out.ch
    have HL : Hid ((runE (timedE 6 s.h) s) = (runE (extE s.h) s)) := hid (by rw [hc]; rfl)
    clear hc hb
    go_enter Tryz.func48, Tryz.ntmps48
    go_wp2_with fail
    go_at_call 55
    refine (rext H.out (HS.out.more (by decide))).mono ?_
    rintro e w1 ⟨rfl, v1, k, g⟩
    replace H := hid k
    replace G := hid (G.out.trans g)
    clear k g
    go_wp2
    go_end0
    rw [HU.out, HL.out]
    exact ⟨rfl, _, H.out, G.out⟩
  · have f64 : (s.h == 6) = false := beq_false (by omega)
    have f65 : 12 ≤ s.h := by omega
    have ch : w.cell? ⟨b, 27, none⟩ = some (.int .i64 s.h) := H.out.ch
    have HL : Hid ((runE (timedE 6 s.h) s) = (runE (extE s.h) s)) := hid (by rw [hc]; rfl)
    clear hc hb
    go_enter Tryz.func48, Tryz.ntmps48
    go_wp2_with fail
    go_at_call 55
    refine (rext H.out (HS.out.more (by decide))).mono ?_
    rintro e w1 ⟨rfl, v1, k, g⟩
    replace H := hid k
    replace G := hid (G.out.trans g)
    clear k g
    go_wp2
    go_end0
    rw [HU.out, HL.out]
    exact ⟨rfl, _, H.out, G.out⟩
  · have f66 : (s.h == 6) = false := beq_false (by omega)
    have f67 : 12 ≤ s.h := by omega
    have ch : w.cell? ⟨b, 27, none⟩ = some (.int .i64 s.h) := H.out.ch
    have HL : Hid ((runE (timedE 6 s.h) s) = (runE (extE s.h) s)) := hid (by rw [hc]; rfl)
    clear hc hb
    go_enter Tryz.func48, Tryz.ntmps48
    go_wp2_with fail
    go_at_call 55
    refine (rext H.out (HS.out.more (by decide))).mono ?_
    rintro e w1 ⟨rfl, v1, k, g⟩
    replace H := hid k
    replace G := hid (G.out.trans g)
    clear k g
    go_wp2
    go_end0
    rw [HU.out, HL.out]
    exact ⟨rfl, _, H.out, G.out⟩
set_option maxHeartbeats 1000000 in
set_option maxRecDepth 100000 in
theorem r48_70 (h : RAt b base s v w) (hs : s.Ok 15) : Calls Tryz.prog 48 #[.pointer (some ⟨b, 0, none⟩), .int .u8 70] w (RRan b base (runE (dialG 6 70) s) v w) := by
  have H := hid h
  have G := hid (Steps.refl b v w)
  have HS := hid hs
  have HO : Hid (s.O.length ≤ 40) := hid hs.O
  have HU : Hid (runE (dialG 6 70) s = speedE s) := hid (rfl)
  clear h hs
  go_enter Tryz.func48, Tryz.ntmps48
  go_wp2_with fail
  go_at_call 56
  refine (rspeed H.out (by have := HO.out; (try simp only [St.ask_len]); omega)).mono ?_
  rintro e w1 ⟨rfl, v1, k, g⟩
  replace H := hid k
  replace G := hid (G.out.trans g)
  clear k g
  go_wp2
  go_end0
  rw [HU.out]
  exact ⟨rfl, _, H.out, G.out⟩
set_option maxHeartbeats 1000000 in
set_option maxRecDepth 100000 in
theorem r48_78 (h : RAt b base s v w) (hs : s.Ok 15) : Calls Tryz.prog 48 #[.pointer (some ⟨b, 0, none⟩), .int .u8 78] w (RRan b base (runE (dialG 6 78) s) v w) := by
  have H := hid h
  have G := hid (Steps.refl b v w)
  have HS := hid hs
  have HO : Hid (s.O.length ≤ 40) := hid hs.O
  have HU : Hid (runE (dialG 6 78) s = s.ask 47 (s.p % 32) 0) := hid (rfl)
  clear h hs
  have cp : w.cell? ⟨b, 26, none⟩ = some (.int .i64 s.p) := H.out.cp
  obtain ⟨p0, p1⟩ : 0 ≤ s.p ∧ s.p ≤ 255 := HS.out.p
  go_enter Tryz.func48, Tryz.ntmps48
  go_wp2_with fail
  go_at_call 39
  refine (rop _ _ _ H.out (by have := HO.out; (try simp only [St.ask_len]); omega)).mono ?_
  rintro e w1 ⟨rfl, v1, k, g⟩
  replace H := hid k
  replace G := hid (G.out.trans g)
  clear k g
  go_wp2
  go_end0
  rw [HU.out]
  exact ⟨rfl, _, H.out, G.out⟩
set_option maxHeartbeats 1000000 in
set_option maxRecDepth 100000 in
theorem r48_83 (h : RAt b base s v w) (hs : s.Ok 15) : Calls Tryz.prog 48 #[.pointer (some ⟨b, 0, none⟩), .int .u8 83] w (RRan b base (runE (dialG 6 83) s) v w) := by
  have H := hid h
  have G := hid (Steps.refl b v w)
  have HS := hid hs
  have HO : Hid (s.O.length ≤ 40) := hid hs.O
  have HU : Hid (runE (dialG 6 83) s = s.ask 48 (s.p % 16) 0) := hid (rfl)
  clear h hs
  have cp : w.cell? ⟨b, 26, none⟩ = some (.int .i64 s.p) := H.out.cp
  obtain ⟨p0, p1⟩ : 0 ≤ s.p ∧ s.p ≤ 255 := HS.out.p
  go_enter Tryz.func48, Tryz.ntmps48
  go_wp2_with fail
  go_at_call 39
  refine (rop _ _ _ H.out (by have := HO.out; (try simp only [St.ask_len]); omega)).mono ?_
  rintro e w1 ⟨rfl, v1, k, g⟩
  replace H := hid k
  replace G := hid (G.out.trans g)
  clear k g
  go_wp2
  go_end0
  rw [HU.out]
  exact ⟨rfl, _, H.out, G.out⟩
end
end Go.Proofs.YtkpielgdfahanaaGreat
