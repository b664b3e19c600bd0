/- The reference's effects of impulse. -/
import Derived.Test.YtkpielgdfahanaaGreatRFn
import Derived.Test.YtkpielgdfahanaaGreatEff2
namespace Go.Proofs.YtkpielgdfahanaaGreat
open Go.RowKit Go.Maps
section
variable {b base : Nat} {s : St} {v : Value} {w : World}
set_option maxHeartbeats 1000000 in
set_option maxRecDepth 100000 in
theorem r46_65 (h : RAt b base s v w) (hs : s.Ok 15) : Calls Tryz.prog 46 #[.pointer (some ⟨b, 0, none⟩), .int .u8 65] w (RRan b base (runE (dialG 4 65) s) v w) := by
  have H := hid h
  have G := hid (Steps.refl b v w)
  have HS := hid hs
  have HO : Hid (s.O.length ≤ 40) := hid hs.O
  have HU : Hid (runE (dialG 4 65) s = speedE s) := hid (rfl)
  clear h hs
  go_enter Tryz.func46, Tryz.ntmps46
  go_wp2_with fail
  go_at_call 56
  refine (rspeed H.out (by have := HO.out; (try simp only [St.ask_len]); omega)).mono ?_
  rintro e w1 ⟨rfl, v1, k, g⟩
  replace H := hid k
  replace G := hid (G.out.trans g)
  clear k g
  go_wp2
  go_end0
  rw [HU.out]
  exact ⟨rfl, _, H.out, G.out⟩
set_option maxHeartbeats 1000000 in
set_option maxRecDepth 100000 in
theorem r46_66 (h : RAt b base s v w) (hs : s.Ok 15) : Calls Tryz.prog 46 #[.pointer (some ⟨b, 0, none⟩), .int .u8 66] w (RRan b base (runE (dialG 4 66) s) v w) := by
  have H := hid h
  have G := hid (Steps.refl b v w)
  have HS := hid hs
  have HO : Hid (s.O.length ≤ 40) := hid hs.O
  have HU : Hid (runE (dialG 4 66) s = s.ask 32 s.p 0) := hid (rfl)
  clear h hs
  have cp : w.cell? ⟨b, 26, none⟩ = some (.int .i64 s.p) := H.out.cp
  go_enter Tryz.func46, Tryz.ntmps46
  go_wp2_with fail
  go_at_call 39
  refine (rop _ _ _ H.out (by have := HO.out; (try simp only [St.ask_len]); omega)).mono ?_
  rintro e w1 ⟨rfl, v1, k, g⟩
  replace H := hid k
  replace G := hid (G.out.trans g)
  clear k g
  go_wp2
  go_end0
  rw [HU.out]
  exact ⟨rfl, _, H.out, G.out⟩
set_option maxHeartbeats 1000000 in
set_option maxRecDepth 100000 in
theorem r46_67 (h : RAt b base s v w) (hs : s.Ok 15) : Calls Tryz.prog 46 #[.pointer (some ⟨b, 0, none⟩), .int .u8 67] w (RRan b base (runE (dialG 4 67) s) v w) := by
  have H := hid h
  have G := hid (Steps.refl b v w)
  have HS := hid hs
  have HO : Hid (s.O.length ≤ 40) := hid hs.O
  have HU : Hid (runE (dialG 4 67) s = s.ask 33 s.p 0) := hid (rfl)
  clear h hs
  have cp : w.cell? ⟨b, 26, none⟩ = some (.int .i64 s.p) := H.out.cp
  go_enter Tryz.func46, Tryz.ntmps46
  go_wp2_with fail
  go_at_call 39
  refine (rop _ _ _ H.out (by have := HO.out; (try simp only [St.ask_len]); omega)).mono ?_
  rintro e w1 ⟨rfl, v1, k, g⟩
  replace H := hid k
  replace G := hid (G.out.trans g)
  clear k g
  go_wp2
  go_end0
  rw [HU.out]
  exact ⟨rfl, _, H.out, G.out⟩
set_option maxHeartbeats 1000000 in
set_option maxRecDepth 100000 in
theorem r46_68 (h : RAt b base s v w) (hs : s.Ok 15) : Calls Tryz.prog 46 #[.pointer (some ⟨b, 0, none⟩), .int .u8 68] w (RRan b base (runE (dialG 4 68) s) v w) := by
  have H := hid h
  have G := hid (Steps.refl b v w)
  have HS := hid hs
  have HO : Hid (s.O.length ≤ 40) := hid hs.O
  have HU : Hid (runE (dialG 4 68) s = slideE (s.whole 1)) := hid (rfl)
  clear h hs
  go_enter Tryz.func46, Tryz.ntmps46
  go_wp2_with fail
  go_at_call 41
  refine (rwhole 1 (by decide) H.out HS.out).mono ?_
  have HS2 := hid (St.Ok.whole HS.out (k := 1) (by decide))
  rintro e w1 ⟨rfl, v1, k, g⟩
  replace H := hid k
  replace G := hid (G.out.trans g)
  clear k g
  generalize hq1 : s.whole 1 = s1 at *
  clear hq1 HS HO
  have HS := HS2
  clear HS2
  have HO : Hid (s1.O.length ≤ 40) := hid HS.out.O
  go_wp2_with fail
  go_at_call 57
  refine (rslide H.out (by have := HO.out; (try simp only [St.ask_len]); omega)).mono ?_
  rintro e w2 ⟨rfl, v2, k, g⟩
  replace H := hid k
  replace G := hid (G.out.trans g)
  clear k g
  go_wp2
  go_end0
  rw [HU.out]
  exact ⟨rfl, _, H.out, G.out⟩
set_option maxHeartbeats 1000000 in
set_option maxRecDepth 100000 in
theorem r46_69 (h : RAt b base s v w) (hs : s.Ok 15) : Calls Tryz.prog 46 #[.pointer (some ⟨b, 0, none⟩), .int .u8 69] w (RRan b base (runE (dialG 4 69) s) v w) := by
  have H := hid h
  have G := hid (Steps.refl b v w)
  have HS := hid hs
  have HO : Hid (s.O.length ≤ 40) := hid hs.O
  have HU : Hid (runE (dialG 4 69) s = bendE 3 5 7 (s.whole 5)) := hid (rfl)
  clear h hs
  go_enter Tryz.func46, Tryz.ntmps46
  go_wp2_with fail
  go_at_call 41
  refine (rwhole 5 (by decide) H.out HS.out).mono ?_
  have HS2 := hid (St.Ok.whole HS.out (k := 5) (by decide))
  rintro e w1 ⟨rfl, v1, k, g⟩
  replace H := hid k
  replace G := hid (G.out.trans g)
  clear k g
  generalize hq1 : s.whole 5 = s1 at *
  clear hq1 HS HO
  have HS := HS2
  clear HS2
  have HO : Hid (s1.O.length ≤ 40) := hid HS.out.O
  go_wp2_with fail
  go_at_call 58
  refine (rbend H.out (by have := HO.out; (try simp only [St.ask_len]); omega) 3 5 7).mono ?_
  rintro e w2 ⟨rfl, v2, k, g⟩
  replace H := hid k
  replace G := hid (G.out.trans g)
  clear k g
  go_wp2
  go_end0
  rw [HU.out]
  exact ⟨rfl, _, H.out, G.out⟩
set_option maxHeartbeats 1000000 in
set_option maxRecDepth 100000 in
theorem r46_70 (h : RAt b base s v w) (hs : s.Ok 15) : Calls Tryz.prog 46 #[.pointer (some ⟨b, 0, none⟩), .int .u8 70] w (RRan b base (runE (dialG 4 70) s) v w) := by
  have H := hid h
  have G := hid (Steps.refl b v w)
  have HS := hid hs
  have HO : Hid (s.O.length ≤ 40) := hid hs.O
  have HU : Hid (runE (dialG 4 70) s = bendE 2 4 6 (s.whole 5)) := hid (rfl)
  clear h hs
  go_enter Tryz.func46, Tryz.ntmps46
  go_wp2_with fail
  go_at_call 41
  refine (rwhole 5 (by decide) H.out HS.out).mono ?_
  have HS2 := hid (St.Ok.whole HS.out (k := 5) (by decide))
  rintro e w1 ⟨rfl, v1, k, g⟩
  replace H := hid k
  replace G := hid (G.out.trans g)
  clear k g
  generalize hq1 : s.whole 5 = s1 at *
  clear hq1 HS HO
  have HS := HS2
  clear HS2
  have HO : Hid (s1.O.length ≤ 40) := hid HS.out.O
  go_wp2_with fail
  go_at_call 58
  refine (rbend H.out (by have := HO.out; (try simp only [St.ask_len]); omega) 2 4 6).mono ?_
  rintro e w2 ⟨rfl, v2, k, g⟩
  replace H := hid k
  replace G := hid (G.out.trans g)
  clear k g
  go_wp2
  go_end0
  rw [HU.out]
  exact ⟨rfl, _, H.out, G.out⟩
set_option maxHeartbeats 1000000 in
set_option maxRecDepth 100000 in
theorem r46_71 (h : RAt b base s v w) (hs : s.Ok 15) : Calls Tryz.prog 46 #[.pointer (some ⟨b, 0, none⟩), .int .u8 71] w (RRan b base (runE (dialG 4 71) s) v w) := by
  have H := hid h
  have G := hid (Steps.refl b v w)
  have HS := hid hs
  have HO : Hid (s.O.length ≤ 40) := hid hs.O
  have HU : Hid (runE (dialG 4 71) s = (s.whole 2).ask 8 (s.whole 2).p 0) := hid (rfl)
  clear h hs
  have cp : w.cell? ⟨b, 26, none⟩ = some (.int .i64 s.p) := H.out.cp
  go_enter Tryz.func46, Tryz.ntmps46
  go_wp2_with fail
  go_at_call 41
  refine (rwhole 2 (by decide) H.out HS.out).mono ?_
  have HS2 := hid (St.Ok.whole HS.out (k := 2) (by decide))
  rintro e w1 ⟨rfl, v1, k, g⟩
  replace H := hid k
  replace G := hid (G.out.trans g)
  clear k g
  generalize hq1 : s.whole 2 = s1 at *
  clear hq1 HS HO cp
  have HS := HS2
  clear HS2
  have HO : Hid (s1.O.length ≤ 40) := hid HS.out.O
  have cp : w1.cell? ⟨b, 26, none⟩ = some (.int .i64 s1.p) := H.out.cp
  go_wp2_with fail
  go_at_call 39
  refine (rop _ _ _ H.out (by have := HO.out; (try simp only [St.ask_len]); omega)).mono ?_
  rintro e w2 ⟨rfl, v2, k, g⟩
  replace H := hid k
  replace G := hid (G.out.trans g)
  clear k g
  go_wp2
  go_end0
  rw [HU.out]
  exact ⟨rfl, _, H.out, G.out⟩
set_option maxHeartbeats 1000000 in
set_option maxRecDepth 100000 in
theorem r46_72 (h : RAt b base s v w) (hs : s.Ok 15) : Calls Tryz.prog 46 #[.pointer (some ⟨b, 0, none⟩), .int .u8 72] w (RRan b base (runE (dialG 4 72) s) v w) := by
  have H := hid h
  have G := hid (Steps.refl b v w)
  have HS := hid hs
  have HO : Hid (s.O.length ≤ 40) := hid hs.O
  have HU : Hid (runE (dialG 4 72) s = (s.halves 3).ask 9 (s.halves 3).h (s.halves 3).l) := hid (rfl)
  clear h hs
  have ch : w.cell? ⟨b, 27, none⟩ = some (.int .i64 s.h) := H.out.ch
  have cl : w.cell? ⟨b, 28, none⟩ = some (.int .i64 s.l) := H.out.cl
  go_enter Tryz.func46, Tryz.ntmps46
  go_wp2_with fail
  go_at_call 42
  refine (rhalves 3 (by decide) H.out HS.out).mono ?_
  have HS2 := hid (St.Ok.halves HS.out (k := 3) (by decide))
  rintro e w1 ⟨rfl, v1, k, g⟩
  replace H := hid k
  replace G := hid (G.out.trans g)
  clear k g
  generalize hq1 : s.halves 3 = s1 at *
  clear hq1 HS HO ch cl
  have HS := HS2
  clear HS2
  have HO : Hid (s1.O.length ≤ 40) := hid HS.out.O
  have ch : w1.cell? ⟨b, 27, none⟩ = some (.int .i64 s1.h) := H.out.ch
  have cl : w1.cell? ⟨b, 28, none⟩ = some (.int .i64 s1.l) := H.out.cl
  go_wp2
  go_still_tail 9, (by kernel_rfl)
  change wpList _ _ _ _ _ w1.drew
  replace H := hid H.out.drew
  go_wp2_with fail
  go_at_call 39
  refine (rop _ _ _ H.out (by have := HO.out; (try simp only [St.ask_len]); omega)).mono ?_
  rintro e w2 ⟨rfl, v2, k, g⟩
  replace H := hid k
  replace G := hid (G.out.trans g.drewl)
  clear k g
  go_wp2
  go_end0
  rw [HU.out]
  exact ⟨rfl, _, H.out, G.out⟩
set_option maxHeartbeats 1000000 in
set_option maxRecDepth 100000 in
theorem r46_73 (h : RAt b base s v w) (hs : s.Ok 15) : Calls Tryz.prog 46 #[.pointer (some ⟨b, 0, none⟩), .int .u8 73] w (RRan b base (runE (dialG 4 73) s) v w) := by
  have H := hid h
  have G := hid (Steps.refl b v w)
  have HS := hid hs
  have HO : Hid (s.O.length ≤ 40) := hid hs.O
  have HU : Hid (runE (dialG 4 73) s = (s.whole 6).ask 20 ((s.whole 6).h + 1) ((s.whole 6).l + 1)) := hid (rfl)
  clear h hs
  have ch : w.cell? ⟨b, 27, none⟩ = some (.int .i64 s.h) := H.out.ch
  have cl : w.cell? ⟨b, 28, none⟩ = some (.int .i64 s.l) := H.out.cl
  obtain ⟨h0, h1⟩ : 0 ≤ s.h ∧ s.h ≤ 15 := HS.out.h
  obtain ⟨l0, l1⟩ : 0 ≤ s.l ∧ s.l ≤ 15 := HS.out.l
  go_enter Tryz.func46, Tryz.ntmps46
  go_wp2_with fail
  go_at_call 41
  refine (rwhole 6 (by decide) H.out HS.out).mono ?_
  have HS2 := hid (St.Ok.whole HS.out (k := 6) (by decide))
  rintro e w1 ⟨rfl, v1, k, g⟩
  replace H := hid k
  replace G := hid (G.out.trans g)
  clear k g
  generalize hq1 : s.whole 6 = s1 at *
  clear hq1 HS HO ch h0 h1 cl l0 l1
  have HS := HS2
  clear HS2
  have HO : Hid (s1.O.length ≤ 40) := hid HS.out.O
  have ch : w1.cell? ⟨b, 27, none⟩ = some (.int .i64 s1.h) := H.out.ch
  have cl : w1.cell? ⟨b, 28, none⟩ = some (.int .i64 s1.l) := H.out.cl
  obtain ⟨h0, h1⟩ : 0 ≤ s1.h ∧ s1.h ≤ 15 := HS.out.h
  obtain ⟨l0, l1⟩ : 0 ≤ s1.l ∧ s1.l ≤ 15 := HS.out.l
  go_wp2
  go_still_tail 11, (by kernel_rfl)
  change wpList _ _ _ _ _ w1.drew
  replace H := hid H.out.drew
  go_wp2_with fail
  go_at_call 39
  refine (rop _ _ _ H.out (by have := HO.out; (try simp only [St.ask_len]); omega)).mono ?_
  rintro e w2 ⟨rfl, v2, k, g⟩
  replace H := hid k
  replace G := hid (G.out.trans g.drewl)
  clear k g
  go_wp2
  go_end0
  rw [HU.out]
  exact ⟨rfl, _, H.out, G.out⟩
set_option maxHeartbeats 1000000 in
set_option maxRecDepth 100000 in
theorem r46_74 (h : RAt b base s v w) (hs : s.Ok 15) : Calls Tryz.prog 46 #[.pointer (some ⟨b, 0, none⟩), .int .u8 74] w (RRan b base (runE (dialG 4 74) s) v w) := by
  have H := hid h
  have G := hid (Steps.refl b v w)
  have HS := hid hs
  have HO : Hid (s.O.length ≤ 40) := hid hs.O
  have HU : Hid (runE (dialG 4 74) s = (s.whole 7).ask 1 (s.whole 7).h (s.whole 7).l) := hid (rfl)
  clear h hs
  have ch : w.cell? ⟨b, 27, none⟩ = some (.int .i64 s.h) := H.out.ch
  have cl : w.cell? ⟨b, 28, none⟩ = some (.int .i64 s.l) := H.out.cl
  go_enter Tryz.func46, Tryz.ntmps46
  go_wp2_with fail
  go_at_call 41
  refine (rwhole 7 (by decide) H.out HS.out).mono ?_
  have HS2 := hid (St.Ok.whole HS.out (k := 7) (by decide))
  rintro e w1 ⟨rfl, v1, k, g⟩
  replace H := hid k
  replace G := hid (G.out.trans g)
  clear k g
  generalize hq1 : s.whole 7 = s1 at *
  clear hq1 HS HO ch cl
  have HS := HS2
  clear HS2
  have HO : Hid (s1.O.length ≤ 40) := hid HS.out.O
  have ch : w1.cell? ⟨b, 27, none⟩ = some (.int .i64 s1.h) := H.out.ch
  have cl : w1.cell? ⟨b, 28, none⟩ = some (.int .i64 s1.l) := H.out.cl
  go_wp2
  go_still_tail 9, (by kernel_rfl)
  change wpList _ _ _ _ _ w1.drew
  replace H := hid H.out.drew
  go_wp2_with fail
  go_at_call 39
  refine (rop _ _ _ H.out (by have := HO.out; (try simp only [St.ask_len]); omega)).mono ?_
  rintro e w2 ⟨rfl, v2, k, g⟩
  replace H := hid k
  replace G := hid (G.out.trans g.drewl)
  clear k g
  go_wp2
  go_end0
  rw [HU.out]
  exact ⟨rfl, _, H.out, G.out⟩
set_option maxHeartbeats 1000000 in
set_option maxRecDepth 100000 in
theorem r46_75 (h : RAt b base s v w) (hs : s.Ok 15) : Calls Tryz.prog 46 #[.pointer (some ⟨b, 0, none⟩), .int .u8 75] w (RRan b base (runE (dialG 4 75) s) v w) := by
  have H := hid h
  have G := hid (Steps.refl b v w)
  have HS := hid hs
  have HO : Hid (s.O.length ≤ 40) := hid hs.O
  have HU : Hid (runE (dialG 4 75) s = slideE ((s.whole 1).ask 9 ((s.whole 1).slot 3 / 16) ((s.whole 1).slot 3 % 16))) := hid (rfl)
  clear h hs
  have c3 : w.cell? ⟨b, 3, none⟩ = some (.int .i64 (s.slot 3)) := H.out.cM (by decide)
  obtain ⟨s30, s31⟩ : 0 ≤ s.slot 3 ∧ s.slot 3 ≤ 255 := HS.out.slots 3 (by decide)
  go_enter Tryz.func46, Tryz.ntmps46
  go_wp2_with fail
  go_at_call 41
  refine (rwhole 1 (by decide) H.out HS.out).mono ?_
  have HS2 := hid (St.Ok.whole HS.out (k := 1) (by decide))
  rintro e w1 ⟨rfl, v1, k, g⟩
  replace H := hid k
  replace G := hid (G.out.trans g)
  clear k g
  generalize hq1 : s.whole 1 = s1 at *
  clear hq1 HS HO c3 s30 s31
  have HS := HS2
  clear HS2
  have HO : Hid (s1.O.length ≤ 40) := hid HS.out.O
  have c3 : w1.cell? ⟨b, 3, none⟩ = some (.int .i64 (s1.slot 3)) := H.out.cM (by decide)
  obtain ⟨s30, s31⟩ : 0 ≤ s1.slot 3 ∧ s1.slot 3 ≤ 255 := HS.out.slots 3 (by decide)
  go_wp2
  go_still_tail 15, (by kernel_rfl)
  change wpList _ _ _ _ _ w1.drew
  replace H := hid H.out.drew
  go_wp2_with fail
  go_at_call 39
  refine (rop _ _ _ H.out (by have := HO.out; (try simp only [St.ask_len]); omega)).mono ?_
  rintro e w2 ⟨rfl, v2, k, g⟩
  replace H := hid k
  replace G := hid (G.out.trans g.drewl)
  clear k g
  have c3 : w2.cell? ⟨b, 3, none⟩ = some (.int .i64 (s1.slot 3)) := H.out.cM (by decide)
  go_wp2_with fail
  go_at_call 57
  refine (rslide H.out (by have := HO.out; (try simp only [St.ask_len]); omega)).mono ?_
  rintro e w3 ⟨rfl, v3, k, g⟩
  replace H := hid k
  replace G := hid (G.out.trans g)
  clear k g
  go_wp2
  go_end0
  rw [HU.out]
  exact ⟨rfl, _, H.out, G.out⟩
set_option maxHeartbeats 1000000 in
set_option maxRecDepth 100000 in
theorem r46_76 (h : RAt b base s v w) (hs : s.Ok 15) : Calls Tryz.prog 46 #[.pointer (some ⟨b, 0, none⟩), .int .u8 76] w (RRan b base (runE (dialG 4 76) s) v w) := by
  have H := hid h
  have G := hid (Steps.refl b v w)
  have HS := hid hs
  have HO : Hid (s.O.length ≤ 40) := hid hs.O
  have HU : Hid (runE (dialG 4 76) s = slideE ((s.whole 1).ask 8 ((s.whole 1).slot 2) 0)) := hid (rfl)
  clear h hs
  have c2 : w.cell? ⟨b, 2, none⟩ = some (.int .i64 (s.slot 2)) := H.out.cM (by decide)
  go_enter Tryz.func46, Tryz.ntmps46
  go_wp2_with fail
  go_at_call 41
  refine (rwhole 1 (by decide) H.out HS.out).mono ?_
  have HS2 := hid (St.Ok.whole HS.out (k := 1) (by decide))
  rintro e w1 ⟨rfl, v1, k, g⟩
  replace H := hid k
  replace G := hid (G.out.trans g)
  clear k g
  generalize hq1 : s.whole 1 = s1 at *
  clear hq1 HS HO c2
  have HS := HS2
  clear HS2
  have HO : Hid (s1.O.length ≤ 40) := hid HS.out.O
  have c2 : w1.cell? ⟨b, 2, none⟩ = some (.int .i64 (s1.slot 2)) := H.out.cM (by decide)
  go_wp2_with fail
  go_at_call 39
  refine (rop _ _ _ H.out (by have := HO.out; (try simp only [St.ask_len]); omega)).mono ?_
  rintro e w2 ⟨rfl, v2, k, g⟩
  replace H := hid k
  replace G := hid (G.out.trans g)
  clear k g
  have c2 : w2.cell? ⟨b, 2, none⟩ = some (.int .i64 (s1.slot 2)) := H.out.cM (by decide)
  go_wp2_with fail
  go_at_call 57
  refine (rslide H.out (by have := HO.out; (try simp only [St.ask_len]); omega)).mono ?_
  rintro e w3 ⟨rfl, v3, k, g⟩
  replace H := hid k
  replace G := hid (G.out.trans g)
  clear k g
  go_wp2
  go_end0
  rw [HU.out]
  exact ⟨rfl, _, H.out, G.out⟩
set_option maxHeartbeats 1000000 in
set_option maxRecDepth 100000 in
theorem r46_77 (h : RAt b base s v w) (hs : s.Ok 15) : Calls Tryz.prog 46 #[.pointer (some ⟨b, 0, none⟩), .int .u8 77] w (RRan b base (runE (dialG 4 77) s) v w) := by
  have H := hid h
  have G := hid (Steps.refl b v w)
  have HS := hid hs
  have HO : Hid (s.O.length ≤ 40) := hid hs.O
  have HU : Hid (runE (dialG 4 77) s = if s.p ≤ 64 then s.ask 30 s.p 0 else s) := hid (rfl)
  clear h hs
  have hb := And.intro HS.out.h (And.intro HS.out.l HS.out.p)
  have hc : (s.p ≤ 64) ∨ (64 < s.p) := by omega
  rcases hc with hc | hc
  · have f31 : s.p ≤ 64 := by omega
    have cp : w.cell? ⟨b, 26, none⟩ = some (.int .i64 s.p) := H.out.cp
    have HL : Hid ((if s.p ≤ 64 then s.ask 30 s.p 0 else s) = (s.ask 30 s.p 0)) := hid (by (repeat' split) <;> first | rfl | (exfalso; omega))
    clear hc hb
    go_enter Tryz.func46, Tryz.ntmps46
    go_wp2_with fail
    go_at_call 39
    refine (rop _ _ _ H.out (by have := HO.out; (try simp only [St.ask_len]); omega)).mono ?_
    rintro e w1 ⟨rfl, v1, k, g⟩
    replace H := hid k
    replace G := hid (G.out.trans g)
    clear k g
    go_wp2
    go_end0
    rw [HU.out, HL.out]
    exact ⟨rfl, _, H.out, G.out⟩
  · have f32 : ¬ s.p ≤ 64 := by omega
    have cp : w.cell? ⟨b, 26, none⟩ = some (.int .i64 s.p) := H.out.cp
    have HL : Hid ((if s.p ≤ 64 then s.ask 30 s.p 0 else s) = (s)) := hid (by (repeat' split) <;> first | rfl | (exfalso; omega))
    clear hc hb
    go_enter Tryz.func46, Tryz.ntmps46
    go_wp2
    go_end0
    rw [HU.out, HL.out]
    exact ⟨rfl, _, H.out, G.out⟩
set_option maxHeartbeats 1000000 in
set_option maxRecDepth 100000 in
theorem r46_78 (h : RAt b base s v w) (hs : s.Ok 15) : Calls Tryz.prog 46 #[.pointer (some ⟨b, 0, none⟩), .int .u8 78] w (RRan b base (runE (dialG 4 78) s) v w) := by
  have H := hid h
  have G := hid (Steps.refl b v w)
  have HS := hid hs
  have HO : Hid (s.O.length ≤ 40) := hid hs.O
  have HU : Hid (runE (dialG 4 78) s = (s.whole 8).ask 31 (s.whole 8).h (s.whole 8).l) := hid (rfl)
  clear h hs
  have ch : w.cell? ⟨b, 27, none⟩ = some (.int .i64 s.h) := H.out.ch
  have cl : w.cell? ⟨b, 28, none⟩ = some (.int .i64 s.l) := H.out.cl
  go_enter Tryz.func46, Tryz.ntmps46
  go_wp2_with fail
  go_at_call 41
  refine (rwhole 8 (by decide) H.out HS.out).mono ?_
  have HS2 := hid (St.Ok.whole HS.out (k := 8) (by decide))
  rintro e w1 ⟨rfl, v1, k, g⟩
  replace H := hid k
  replace G := hid (G.out.trans g)
  clear k g
  generalize hq1 : s.whole 8 = s1 at *
  clear hq1 HS HO ch cl
  have HS := HS2
  clear HS2
  have HO : Hid (s1.O.length ≤ 40) := hid HS.out.O
  have ch : w1.cell? ⟨b, 27, none⟩ = some (.int .i64 s1.h) := H.out.ch
  have cl : w1.cell? ⟨b, 28, none⟩ = some (.int .i64 s1.l) := H.out.cl
  go_wp2
  go_still_tail 9, (by kernel_rfl)
  change wpList _ _ _ _ _ w1.drew
  replace H := hid H.out.drew
  go_wp2_with fail
  go_at_call 39
  refine (rop _ _ _ H.out (by have := HO.out; (try simp only [St.ask_len]); omega)).mono ?_
  rintro e w2 ⟨rfl, v2, k, g⟩
  replace H := hid k
  replace G := hid (G.out.trans g.drewl)
  clear k g
  go_wp2
  go_end0
  rw [HU.out]
  exact ⟨rfl, _, H.out, G.out⟩
set_option maxHeartbeats 1000000 in
set_option maxRecDepth 100000 in
theorem r46_79 (h : RAt b base s v w) (hs : s.Ok 15) : Calls Tryz.prog 46 #[.pointer (some ⟨b, 0, none⟩), .int .u8 79] w (RRan b base (runE (dialG 4 79) s) v w) := by
  have H := hid h
  have G := hid (Steps.refl b v w)
  have HS := hid hs
  have HO : Hid (s.O.length ≤ 40) := hid hs.O
  have HU : Hid (runE (dialG 4 79) s = (s.whole 4).ask 18 (256 * (s.whole 4).p) 0) := hid (rfl)
  clear h hs
  have cp : w.cell? ⟨b, 26, none⟩ = some (.int .i64 s.p) := H.out.cp
  obtain ⟨p0, p1⟩ : 0 ≤ s.p ∧ s.p ≤ 255 := HS.out.p
  go_enter Tryz.func46, Tryz.ntmps46
  go_wp2_with fail
  go_at_call 41
  refine (rwhole 4 (by decide) H.out HS.out).mono ?_
  have HS2 := hid (St.Ok.whole HS.out (k := 4) (by decide))
  rintro e w1 ⟨rfl, v1, k, g⟩
  replace H := hid k
  replace G := hid (G.out.trans g)
  clear k g
  generalize hq1 : s.whole 4 = s1 at *
  clear hq1 HS HO cp p0 p1
  have HS := HS2
  clear HS2
  have HO : Hid (s1.O.length ≤ 40) := hid HS.out.O
  have cp : w1.cell? ⟨b, 26, none⟩ = some (.int .i64 s1.p) := H.out.cp
  obtain ⟨p0, p1⟩ : 0 ≤ s1.p ∧ s1.p ≤ 255 := HS.out.p
  go_wp2_with fail
  go_at_call 39
  refine (rop _ _ _ H.out (by have := HO.out; (try simp only [St.ask_len]); omega)).mono ?_
  rintro e w2 ⟨rfl, v2, k, g⟩
  replace H := hid k
  replace G := hid (G.out.trans g)
  clear k g
  go_wp2
  go_end0
  rw [HU.out]
  exact ⟨rfl, _, H.out, G.out⟩
set_option maxHeartbeats 1000000 in
set_option maxRecDepth 100000 in
theorem r46_80 (h : RAt b base s v w) (hs : s.Ok 15) : Calls Tryz.prog 46 #[.pointer (some ⟨b, 0, none⟩), .int .u8 80] w (RRan b base (runE (dialG 4 80) s) v w) := by
  have H := hid h
  have G := hid (Steps.refl b v w)
  have HS := hid hs
  have HO : Hid (s.O.length ≤ 40) := hid hs.O
  have HU : Hid (runE (dialG 4 80) s = (s.whole 9).ask 17 (s.whole 9).l (s.whole 9).h) := hid (rfl)
  clear h hs
  have ch : w.cell? ⟨b, 27, none⟩ = some (.int .i64 s.h) := H.out.ch
  have cl : w.cell? ⟨b, 28, none⟩ = some (.int .i64 s.l) := H.out.cl
  go_enter Tryz.func46, Tryz.ntmps46
  go_wp2_with fail
  go_at_call 41
  refine (rwhole 9 (by decide) H.out HS.out).mono ?_
  have HS2 := hid (St.Ok.whole HS.out (k := 9) (by decide))
  rintro e w1 ⟨rfl, v1, k, g⟩
  replace H := hid k
  replace G := hid (G.out.trans g)
  clear k g
  generalize hq1 : s.whole 9 = s1 at *
  clear hq1 HS HO ch cl
  have HS := HS2
  clear HS2
  have HO : Hid (s1.O.length ≤ 40) := hid HS.out.O
  have ch : w1.cell? ⟨b, 27, none⟩ = some (.int .i64 s1.h) := H.out.ch
  have cl : w1.cell? ⟨b, 28, none⟩ = some (.int .i64 s1.l) := H.out.cl
  go_wp2
  go_still_tail 9, (by kernel_rfl)
  change wpList _ _ _ _ _ w1.drew
  replace H := hid H.out.drew
  go_wp2_with fail
  go_at_call 39
  refine (rop _ _ _ H.out (by have := HO.out; (try simp only [St.ask_len]); omega)).mono ?_
  rintro e w2 ⟨rfl, v2, k, g⟩
  replace H := hid k
  replace G := hid (G.out.trans g.drewl)
  clear k g
  go_wp2
  go_end0
  rw [HU.out]
  exact ⟨rfl, _, H.out, G.out⟩
set_option maxHeartbeats 1000000 in
set_option maxRecDepth 100000 in
theorem r46_81 (h : RAt b base s v w) (hs : s.Ok 15) : Calls Tryz.prog 46 #[.pointer (some ⟨b, 0, none⟩), .int .u8 81] w (RRan b base (runE (dialG 4 81) s) v w) := by
  have H := hid h
  have G := hid (Steps.refl b v w)
  have HS := hid hs
  have HO : Hid (s.O.length ≤ 40) := hid hs.O
  have HU : Hid (runE (dialG 4 81) s = (s.whole 10).ask 19 (s.whole 10).l (s.whole 10).h) := hid (rfl)
  clear h hs
  have ch : w.cell? ⟨b, 27, none⟩ = some (.int .i64 s.h) := H.out.ch
  have cl : w.cell? ⟨b, 28, none⟩ = some (.int .i64 s.l) := H.out.cl
  go_enter Tryz.func46, Tryz.ntmps46
  go_wp2_with fail
  go_at_call 41
  refine (rwhole 10 (by decide) H.out HS.out).mono ?_
  have HS2 := hid (St.Ok.whole HS.out (k := 10) (by decide))
  rintro e w1 ⟨rfl, v1, k, g⟩
  replace H := hid k
  replace G := hid (G.out.trans g)
  clear k g
  generalize hq1 : s.whole 10 = s1 at *
  clear hq1 HS HO ch cl
  have HS := HS2
  clear HS2
  have HO : Hid (s1.O.length ≤ 40) := hid HS.out.O
  have ch : w1.cell? ⟨b, 27, none⟩ = some (.int .i64 s1.h) := H.out.ch
  have cl : w1.cell? ⟨b, 28, none⟩ = some (.int .i64 s1.l) := H.out.cl
  go_wp2
  go_still_tail 9, (by kernel_rfl)
  change wpList _ _ _ _ _ w1.drew
  replace H := hid H.out.drew
  go_wp2_with fail
  go_at_call 39
  refine (rop _ _ _ H.out (by have := HO.out; (try simp only [St.ask_len]); omega)).mono ?_
  rintro e w2 ⟨rfl, v2, k, g⟩
  replace H := hid k
  replace G := hid (G.out.trans g.drewl)
  clear k g
  go_wp2
  go_end0
  rw [HU.out]
  exact ⟨rfl, _, H.out, G.out⟩
set_option maxHeartbeats 1000000 in
set_option maxRecDepth 100000 in
theorem r46_82 (h : RAt b base s v w) (hs : s.Ok 15) : Calls Tryz.prog 46 #[.pointer (some ⟨b, 0, none⟩), .int .u8 82] w (RRan b base (runE (dialG 4 82) s) v w) := by
  have H := hid h
  have G := hid (Steps.refl b v w)
  have HS := hid hs
  have HO : Hid (s.O.length ≤ 40) := hid hs.O
  have HU : Hid (runE (dialG 4 82) s = (s.halves 11).ask 11 (s.halves 11).h (s.halves 11).l) := hid (rfl)
  clear h hs
  have ch : w.cell? ⟨b, 27, none⟩ = some (.int .i64 s.h) := H.out.ch
  have cl : w.cell? ⟨b, 28, none⟩ = some (.int .i64 s.l) := H.out.cl
  go_enter Tryz.func46, Tryz.ntmps46
  go_wp2_with fail
  go_at_call 42
  refine (rhalves 11 (by decide) H.out HS.out).mono ?_
  have HS2 := hid (St.Ok.halves HS.out (k := 11) (by decide))
  rintro e w1 ⟨rfl, v1, k, g⟩
  replace H := hid k
  replace G := hid (G.out.trans g)
  clear k g
  generalize hq1 : s.halves 11 = s1 at *
  clear hq1 HS HO ch cl
  have HS := HS2
  clear HS2
  have HO : Hid (s1.O.length ≤ 40) := hid HS.out.O
  have ch : w1.cell? ⟨b, 27, none⟩ = some (.int .i64 s1.h) := H.out.ch
  have cl : w1.cell? ⟨b, 28, none⟩ = some (.int .i64 s1.l) := H.out.cl
  go_wp2
  go_still_tail 9, (by kernel_rfl)
  change wpList _ _ _ _ _ w1.drew
  replace H := hid H.out.drew
  go_wp2_with fail
  go_at_call 39
  refine (rop _ _ _ H.out (by have := HO.out; (try simp only [St.ask_len]); omega)).mono ?_
  rintro e w2 ⟨rfl, v2, k, g⟩
  replace H := hid k
  replace G := hid (G.out.trans g.drewl)
  clear k g
  go_wp2
  go_end0
  rw [HU.out]
  exact ⟨rfl, _, H.out, G.out⟩
set_option maxHeartbeats 1000000 in
set_option maxRecDepth 100000 in
theorem r46_83 (h : RAt b base s v w) (hs : s.Ok 15) : Calls Tryz.prog 46 #[.pointer (some ⟨b, 0, none⟩), .int .u8 83] w (RRan b base (runE (dialG 4 83) s) v w) := by
  have H := hid h
  have G := hid (Steps.refl b v w)
  have HS := hid hs
  have HO : Hid (s.O.length ≤ 40) := hid hs.O
  have HU : Hid (runE (dialG 4 83) s = runE (impS (s.whole 12).h) (s.whole 12)) := hid (rfl)
  clear h hs
  have ch : w.cell? ⟨b, 27, none⟩ = some (.int .i64 s.h) := H.out.ch
  go_enter Tryz.func46, Tryz.ntmps46
  go_wp2_with fail
  go_at_call 41
  refine (rwhole 12 (by decide) H.out HS.out).mono ?_
  have HS2 := hid (St.Ok.whole HS.out (k := 12) (by decide))
  rintro e w1 ⟨rfl, v1, k, g⟩
  replace H := hid k
  replace G := hid (G.out.trans g)
  clear k g
  generalize hq1 : s.whole 12 = s1 at *
  clear hq1 HS HO ch
  have HS := HS2
  clear HS2
  have HO : Hid (s1.O.length ≤ 40) := hid HS.out.O
  have ch : w1.cell? ⟨b, 27, none⟩ = some (.int .i64 s1.h) := H.out.ch
  go_wp2_with fail
  go_at_call 61
  refine (rspecial H.out HS.out).mono ?_
  rintro e w2 ⟨rfl, v2, k, g⟩
  replace H := hid k
  replace G := hid (G.out.trans g)
  clear k g
  go_wp2
  go_end0
  rw [HU.out]
  exact ⟨rfl, _, H.out, G.out⟩
set_option maxHeartbeats 1000000 in
set_option maxRecDepth 100000 in
theorem r46_84 (h : RAt b base s v w) (hs : s.Ok 15) : Calls Tryz.prog 46 #[.pointer (some ⟨b, 0, none⟩), .int .u8 84] w (RRan b base (runE (dialG 4 84) s) v w) := by
  have H := hid h
  have G := hid (Steps.refl b v w)
  have HS := hid hs
  have HO : Hid (s.O.length ≤ 40) := hid hs.O
  have HU : Hid (runE (dialG 4 84) s = if (s.whole 13).p < 16 then (s.whole 13).ask 38 (- (s.whole 13).l) 0 else if (s.whole 13).p < 32 then (s.whole 13).ask 38 (s.whole 13).l 0 else (s.whole 13).ask 37 (s.whole 13).p 0) := hid (rfl)
  clear h hs
  have cp : w.cell? ⟨b, 26, none⟩ = some (.int .i64 s.p) := H.out.cp
  have cl : w.cell? ⟨b, 28, none⟩ = some (.int .i64 s.l) := H.out.cl
  obtain ⟨h0, h1⟩ : 0 ≤ s.h ∧ s.h ≤ 15 := HS.out.h
  obtain ⟨l0, l1⟩ : 0 ≤ s.l ∧ s.l ≤ 15 := HS.out.l
  go_enter Tryz.func46, Tryz.ntmps46
  go_wp2_with fail
  go_at_call 41
  refine (rwhole 13 (by decide) H.out HS.out).mono ?_
  have HS2 := hid (St.Ok.whole HS.out (k := 13) (by decide))
  rintro e w1 ⟨rfl, v1, k, g⟩
  replace H := hid k
  replace G := hid (G.out.trans g)
  clear k g
  generalize hq1 : s.whole 13 = s1 at *
  clear hq1 HS HO cp h0 h1 cl l0 l1
  have HS := HS2
  clear HS2
  have HO : Hid (s1.O.length ≤ 40) := hid HS.out.O
  have cp : w1.cell? ⟨b, 26, none⟩ = some (.int .i64 s1.p) := H.out.cp
  have cl : w1.cell? ⟨b, 28, none⟩ = some (.int .i64 s1.l) := H.out.cl
  obtain ⟨h0, h1⟩ : 0 ≤ s1.h ∧ s1.h ≤ 15 := HS.out.h
  obtain ⟨l0, l1⟩ : 0 ≤ s1.l ∧ s1.l ≤ 15 := HS.out.l
  have hb := And.intro HS.out.h (And.intro HS.out.l HS.out.p)
  have hc : (s1.p < 16) ∨ (16 ≤ s1.p ∧ s1.p < 32) ∨ (32 ≤ s1.p) := by omega
  rcases hc with hc | hc | hc
  · have f33 : s1.p < 16 := by omega
    have HL : Hid ((if s1.p < 16 then s1.ask 38 (- s1.l) 0 else if s1.p < 32 then s1.ask 38 s1.l 0 else s1.ask 37 s1.p 0) = (s1.ask 38 (- s1.l) 0)) := hid (by (repeat' split) <;> first | rfl | (exfalso; omega))
    clear hc hb
    go_wp2_with fail
    go_at_call 39
    refine (rop _ _ _ H.out (by have := HO.out; (try simp only [St.ask_len]); omega)).mono ?_
    rintro e w2 ⟨rfl, v2, k, g⟩
    replace H := hid k
    replace G := hid (G.out.trans g)
    clear k g
    go_wp2
    go_end0
    rw [HU.out, HL.out]
    exact ⟨rfl, _, H.out, G.out⟩
  · have f34 : ¬ s1.p < 16 := by omega
    have f35 : s1.p < 32 := by omega
    have HL : Hid ((if s1.p < 16 then s1.ask 38 (- s1.l) 0 else if s1.p < 32 then s1.ask 38 s1.l 0 else s1.ask 37 s1.p 0) = (s1.ask 38 s1.l 0)) := hid (by (repeat' split) <;> first | rfl | (exfalso; omega))
    clear hc hb
    go_wp2_with fail
    go_at_call 39
    refine (rop _ _ _ H.out (by have := HO.out; (try simp only [St.ask_len]); omega)).mono ?_
    rintro e w2 ⟨rfl, v2, k, g⟩
    replace H := hid k
    replace G := hid (G.out.trans g)
    clear k g
    go_wp2
    go_end0
    rw [HU.out, HL.out]
    exact ⟨rfl, _, H.out, G.out⟩
  · have f36 : ¬ s1.p < 16 := by omega
    have f37 : ¬ s1.p < 32 := by omega
    have HL : Hid ((if s1.p < 16 then s1.ask 38 (- s1.l) 0 else if s1.p < 32 then s1.ask 38 s1.l 0 else s1.ask 37 s1.p 0) = (s1.ask 37 s1.p 0)) := hid (by (repeat' split) <;> first | rfl | (exfalso; omega))
    clear hc hb
    go_wp2_with fail
    go_at_call 39
    refine (rop _ _ _ H.out (by have := HO.out; (try simp only [St.ask_len]); omega)).mono ?_
    rintro e w2 ⟨rfl, v2, k, g⟩
    replace H := hid k
    replace G := hid (G.out.trans g)
    clear k g
    go_wp2
    go_end0
    rw [HU.out, HL.out]
    exact ⟨rfl, _, H.out, G.out⟩
set_option maxHeartbeats 1000000 in
set_option maxRecDepth 100000 in
theorem r46_85 (h : RAt b base s v w) (hs : s.Ok 15) : Calls Tryz.prog 46 #[.pointer (some ⟨b, 0, none⟩), .int .u8 85] w (RRan b base (runE (dialG 4 85) s) v w) := by
  have H := hid h
  have G := hid (Steps.refl b v w)
  have HS := hid hs
  have HO : Hid (s.O.length ≤ 40) := hid hs.O
  have HU : Hid (runE (dialG 4 85) s = (s.halves 3).ask 10 (s.halves 3).h (s.halves 3).l) := hid (rfl)
  clear h hs
  have ch : w.cell? ⟨b, 27, none⟩ = some (.int .i64 s.h) := H.out.ch
  have cl : w.cell? ⟨b, 28, none⟩ = some (.int .i64 s.l) := H.out.cl
  go_enter Tryz.func46, Tryz.ntmps46
  go_wp2_with fail
  go_at_call 42
  refine (rhalves 3 (by decide) H.out HS.out).mono ?_
  have HS2 := hid (St.Ok.halves HS.out (k := 3) (by decide))
  rintro e w1 ⟨rfl, v1, k, g⟩
  replace H := hid k
  replace G := hid (G.out.trans g)
  clear k g
  generalize hq1 : s.halves 3 = s1 at *
  clear hq1 HS HO ch cl
  have HS := HS2
  clear HS2
  have HO : Hid (s1.O.length ≤ 40) := hid HS.out.O
  have ch : w1.cell? ⟨b, 27, none⟩ = some (.int .i64 s1.h) := H.out.ch
  have cl : w1.cell? ⟨b, 28, none⟩ = some (.int .i64 s1.l) := H.out.cl
  go_wp2
  go_still_tail 9, (by kernel_rfl)
  change wpList _ _ _ _ _ w1.drew
  replace H := hid H.out.drew
  go_wp2_with fail
  go_at_call 39
  refine (rop _ _ _ H.out (by have := HO.out; (try simp only [St.ask_len]); omega)).mono ?_
  rintro e w2 ⟨rfl, v2, k, g⟩
  replace H := hid k
  replace G := hid (G.out.trans g.drewl)
  clear k g
  go_wp2
  go_end0
  rw [HU.out]
  exact ⟨rfl, _, H.out, G.out⟩
set_option maxHeartbeats 1000000 in
set_option maxRecDepth 100000 in
theorem r46_86 (h : RAt b base s v w) (hs : s.Ok 15) : Calls Tryz.prog 46 #[.pointer (some ⟨b, 0, none⟩), .int .u8 86] w (RRan b base (runE (dialG 4 86) s) v w) := by
  have H := hid h
  have G := hid (Steps.refl b v w)
  have HS := hid hs
  have HO : Hid (s.O.length ≤ 40) := hid hs.O
  have HU : Hid (runE (dialG 4 86) s = if s.p ≤ 128 then s.ask 28 s.p 0 else s) := hid (rfl)
  clear h hs
  have hb := And.intro HS.out.h (And.intro HS.out.l HS.out.p)
  have hc : (s.p ≤ 128) ∨ (128 < s.p) := by omega
  rcases hc with hc | hc
  · have f38 : s.p ≤ 128 := by omega
    have cp : w.cell? ⟨b, 26, none⟩ = some (.int .i64 s.p) := H.out.cp
    have HL : Hid ((if s.p ≤ 128 then s.ask 28 s.p 0 else s) = (s.ask 28 s.p 0)) := hid (by (repeat' split) <;> first | rfl | (exfalso; omega))
    clear hc hb
    go_enter Tryz.func46, Tryz.ntmps46
    go_wp2_with fail
    go_at_call 39
    refine (rop _ _ _ H.out (by have := HO.out; (try simp only [St.ask_len]); omega)).mono ?_
    rintro e w1 ⟨rfl, v1, k, g⟩
    replace H := hid k
    replace G := hid (G.out.trans g)
    clear k g
    go_wp2
    go_end0
    rw [HU.out, HL.out]
    exact ⟨rfl, _, H.out, G.out⟩
  · have f39 : ¬ s.p ≤ 128 := by omega
    have cp : w.cell? ⟨b, 26, none⟩ = some (.int .i64 s.p) := H.out.cp
    have HL : Hid ((if s.p ≤ 128 then s.ask 28 s.p 0 else s) = (s)) := hid (by (repeat' split) <;> first | rfl | (exfalso; omega))
    clear hc hb
    go_enter Tryz.func46, Tryz.ntmps46
    go_wp2
    go_end0
    rw [HU.out, HL.out]
    exact ⟨rfl, _, H.out, G.out⟩
set_option maxHeartbeats 1000000 in
set_option maxRecDepth 100000 in
theorem r46_87 (h : RAt b base s v w) (hs : s.Ok 15) : Calls Tryz.prog 46 #[.pointer (some ⟨b, 0, none⟩), .int .u8 87] w (RRan b base (runE (dialG 4 87) s) v w) := by
  have H := hid h
  have G := hid (Steps.refl b v w)
  have HS := hid hs
  have HO : Hid (s.O.length ≤ 40) := hid hs.O
  have HU : Hid (runE (dialG 4 87) s = (s.whole 14).ask 29 (s.whole 14).h (s.whole 14).l) := hid (rfl)
  clear h hs
  have ch : w.cell? ⟨b, 27, none⟩ = some (.int .i64 s.h) := H.out.ch
  have cl : w.cell? ⟨b, 28, none⟩ = some (.int .i64 s.l) := H.out.cl
  go_enter Tryz.func46, Tryz.ntmps46
  go_wp2_with fail
  go_at_call 41
  refine (rwhole 14 (by decide) H.out HS.out).mono ?_
  have HS2 := hid (St.Ok.whole HS.out (k := 14) (by decide))
  rintro e w1 ⟨rfl, v1, k, g⟩
  replace H := hid k
  replace G := hid (G.out.trans g)
  clear k g
  generalize hq1 : s.whole 14 = s1 at *
  clear hq1 HS HO ch cl
  have HS := HS2
  clear HS2
  have HO : Hid (s1.O.length ≤ 40) := hid HS.out.O
  have ch : w1.cell? ⟨b, 27, none⟩ = some (.int .i64 s1.h) := H.out.ch
  have cl : w1.cell? ⟨b, 28, none⟩ = some (.int .i64 s1.l) := H.out.cl
  go_wp2
  go_still_tail 9, (by kernel_rfl)
  change wpList _ _ _ _ _ w1.drew
  replace H := hid H.out.drew
  go_wp2_with fail
  go_at_call 39
  refine (rop _ _ _ H.out (by have := HO.out; (try simp only [St.ask_len]); omega)).mono ?_
  rintro e w2 ⟨rfl, v2, k, g⟩
  replace H := hid k
  replace G := hid (G.out.trans g.drewl)
  clear k g
  go_wp2
  go_end0
  rw [HU.out]
  exact ⟨rfl, _, H.out, G.out⟩
set_option maxHeartbeats 1000000 in
set_option maxRecDepth 100000 in
theorem r46_88 (h : RAt b base s v w) (hs : s.Ok 15) : Calls Tryz.prog 46 #[.pointer (some ⟨b, 0, none⟩), .int .u8 88] w (RRan b base (runE (dialG 4 88) s) v w) := by
  have H := hid h
  have G := hid (Steps.refl b v w)
  have HS := hid hs
  have HO : Hid (s.O.length ≤ 40) := hid hs.O
  have HU : Hid (runE (dialG 4 88) s = s.ask 16 (panV s.p) 0) := hid (rfl)
  clear h hs
  have cp : w.cell? ⟨b, 26, none⟩ = some (.int .i64 s.p) := H.out.cp
  obtain ⟨p0, p1⟩ : 0 ≤ s.p ∧ s.p ≤ 255 := HS.out.p
  go_enter Tryz.func46, Tryz.ntmps46
  go_wp2_with fail
  go_at_call 54
  refine (rpan _ _ (by omega) (by omega)).mono ?_
  rintro e w0 ⟨rfl, rfl⟩
  go_wp2_with fail
  go_at_call 39
  refine (rop _ _ _ H.out (by have := HO.out; (try simp only [St.ask_len]); omega)).mono ?_
  rintro e w1 ⟨rfl, v1, k, g⟩
  replace H := hid k
  replace G := hid (G.out.trans g)
  clear k g
  go_wp2
  go_end0
  rw [HU.out]
  exact ⟨rfl, _, H.out, G.out⟩
set_option maxHeartbeats 1000000 in
set_option maxRecDepth 100000 in
theorem r46_89 (h : RAt b base s v w) (hs : s.Ok 15) : Calls Tryz.prog 46 #[.pointer (some ⟨b, 0, none⟩), .int .u8 89] w (RRan b base (runE (dialG 4 89) s) v w) := by
  have H := hid h
  have G := hid (Steps.refl b v w)
  have HS := hid hs
  have HO : Hid (s.O.length ≤ 40) := hid hs.O
  have HU : Hid (runE (dialG 4 89) s = (s.halves 15).ask 46 (s.halves 15).h (s.halves 15).l) := hid (rfl)
  clear h hs
  have ch : w.cell? ⟨b, 27, none⟩ = some (.int .i64 s.h) := H.out.ch
  have cl : w.cell? ⟨b, 28, none⟩ = some (.int .i64 s.l) := H.out.cl
  go_enter Tryz.func46, Tryz.ntmps46
  go_wp2_with fail
  go_at_call 42
  refine (rhalves 15 (by decide) H.out HS.out).mono ?_
  have HS2 := hid (St.Ok.halves HS.out (k := 15) (by decide))
  rintro e w1 ⟨rfl, v1, k, g⟩
  replace H := hid k
  replace G := hid (G.out.trans g)
  clear k g
  generalize hq1 : s.halves 15 = s1 at *
  clear hq1 HS HO ch cl
  have HS := HS2
  clear HS2
  have HO : Hid (s1.O.length ≤ 40) := hid HS.out.O
  have ch : w1.cell? ⟨b, 27, none⟩ = some (.int .i64 s1.h) := H.out.ch
  have cl : w1.cell? ⟨b, 28, none⟩ = some (.int .i64 s1.l) := H.out.cl
  go_wp2
  go_still_tail 9, (by kernel_rfl)
  change wpList _ _ _ _ _ w1.drew
  replace H := hid H.out.drew
  go_wp2_with fail
  go_at_call 39
  refine (rop _ _ _ H.out (by have := HO.out; (try simp only [St.ask_len]); omega)).mono ?_
  rintro e w2 ⟨rfl, v2, k, g⟩
  replace H := hid k
  replace G := hid (G.out.trans g.drewl)
  clear k g
  go_wp2
  go_end0
  rw [HU.out]
  exact ⟨rfl, _, H.out, G.out⟩
set_option maxHeartbeats 1000000 in
set_option maxRecDepth 100000 in
theorem r46_90 (h : RAt b base s v w) (hs : s.Ok 15) : Calls Tryz.prog 46 #[.pointer (some ⟨b, 0, none⟩), .int .u8 90] w (RRan b base (runE (dialG 4 90) s) v w) := by
  have H := hid h
  have G := hid (Steps.refl b v w)
  have HS := hid hs
  have HO : Hid (s.O.length ≤ 40) := hid hs.O
  have HU : Hid (runE (dialG 4 90) s = if s.p < 128 then s.ask 42 s.p 0 else if s.p < 144 then s.ask 43 (8 * (s.p - 128)) 0 else s) := hid (rfl)
  clear h hs
  have hb := And.intro HS.out.h (And.intro HS.out.l HS.out.p)
  have hc : (s.p < 128) ∨ (128 ≤ s.p ∧ s.p < 144) ∨ (144 ≤ s.p) := by omega
  rcases hc with hc | hc | hc
  · have f40 : s.p < 128 := by omega
    have cp : w.cell? ⟨b, 26, none⟩ = some (.int .i64 s.p) := H.out.cp
    obtain ⟨p0, p1⟩ : 0 ≤ s.p ∧ s.p ≤ 255 := HS.out.p
    have HL : Hid ((if s.p < 128 then s.ask 42 s.p 0 else if s.p < 144 then s.ask 43 (8 * (s.p - 128)) 0 else s) = (s.ask 42 s.p 0)) := hid (by (repeat' split) <;> first | rfl | (exfalso; omega))
    clear hc hb
    go_enter Tryz.func46, Tryz.ntmps46
    go_wp2_with fail
    go_at_call 39
    refine (rop _ _ _ H.out (by have := HO.out; (try simp only [St.ask_len]); omega)).mono ?_
    rintro e w1 ⟨rfl, v1, k, g⟩
    replace H := hid k
    replace G := hid (G.out.trans g)
    clear k g
    go_wp2
    go_end0
    rw [HU.out, HL.out]
    exact ⟨rfl, _, H.out, G.out⟩
  · have f41 : ¬ s.p < 128 := by omega
    have f42 : s.p < 144 := by omega
    have cp : w.cell? ⟨b, 26, none⟩ = some (.int .i64 s.p) := H.out.cp
    obtain ⟨p0, p1⟩ : 0 ≤ s.p ∧ s.p ≤ 255 := HS.out.p
    have HL : Hid ((if s.p < 128 then s.ask 42 s.p 0 else if s.p < 144 then s.ask 43 (8 * (s.p - 128)) 0 else s) = (s.ask 43 (8 * (s.p - 128)) 0)) := hid (by (repeat' split) <;> first | rfl | (exfalso; omega))
    clear hc hb
    go_enter Tryz.func46, Tryz.ntmps46
    go_wp2_with fail
    go_at_call 39
    refine (rop _ _ _ H.out (by have := HO.out; (try simp only [St.ask_len]); omega)).mono ?_
    rintro e w1 ⟨rfl, v1, k, g⟩
    replace H := hid k
    replace G := hid (G.out.trans g)
    clear k g
    go_wp2
    go_end0
    rw [HU.out, HL.out]
    exact ⟨rfl, _, H.out, G.out⟩
  · have f43 : ¬ s.p < 128 := by omega
    have f44 : ¬ s.p < 144 := by omega
    have cp : w.cell? ⟨b, 26, none⟩ = some (.int .i64 s.p) := H.out.cp
    obtain ⟨p0, p1⟩ : 0 ≤ s.p ∧ s.p ≤ 255 := HS.out.p
    have HL : Hid ((if s.p < 128 then s.ask 42 s.p 0 else if s.p < 144 then s.ask 43 (8 * (s.p - 128)) 0 else s) = (s)) := hid (by (repeat' split) <;> first | rfl | (exfalso; omega))
    clear hc hb
    go_enter Tryz.func46, Tryz.ntmps46
    go_wp2
    go_end0
    rw [HU.out, HL.out]
    exact ⟨rfl, _, H.out, G.out⟩
end
end Go.Proofs.YtkpielgdfahanaaGreat
