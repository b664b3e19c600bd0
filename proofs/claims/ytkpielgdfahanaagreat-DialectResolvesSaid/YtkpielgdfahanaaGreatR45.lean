/- The reference's effects of fast. -/
import Derived.Test.YtkpielgdfahanaaGreatR43
namespace Go.Proofs.YtkpielgdfahanaaGreat
open Go.RowKit Go.Maps
section
variable {b base : Nat} {s : St} {v : Value} {w : World}
set_option maxHeartbeats 1000000 in
set_option maxRecDepth 100000 in
theorem r45_48 (h : RAt b base s v w) (hs : s.Ok 15) : Calls Tryz.prog 45 #[.pointer (some ⟨b, 0, none⟩), .int .u8 48] w (RRan b base (runE (dialG 3 48) s) v w) := by
  have H := hid h
  have G := hid (Steps.refl b v w)
  have HS := hid hs
  have HO : Hid (s.O.length ≤ 40) := hid hs.O
  have HU : Hid (runE (dialG 3 48) s = runE (dialG 1 48) s) := hid (rfl)
  clear h hs
  go_enter Tryz.func45, Tryz.ntmps45
  go_wp2_with fail
  go_at_call 43
  refine (r43_48 H.out HS.out).mono ?_
  rintro e w1 ⟨rfl, v1, k, g⟩
  replace H := hid k
  replace G := hid (G.out.trans g)
  clear k g
  go_wp2
  go_end0
  rw [HU.out]
  exact ⟨rfl, _, H.out, G.out⟩
set_option maxHeartbeats 1000000 in
set_option maxRecDepth 100000 in
theorem r45_51 (h : RAt b base s v w) (hs : s.Ok 15) : Calls Tryz.prog 45 #[.pointer (some ⟨b, 0, none⟩), .int .u8 51] w (RRan b base (runE (dialG 3 51) s) v w) := by
  have H := hid h
  have G := hid (Steps.refl b v w)
  have HS := hid hs
  have HO : Hid (s.O.length ≤ 40) := hid hs.O
  have HU : Hid (runE (dialG 3 51) s = runE (dialG 1 51) s) := hid (rfl)
  clear h hs
  go_enter Tryz.func45, Tryz.ntmps45
  go_wp2_with fail
  go_at_call 43
  refine (r43_51 H.out HS.out).mono ?_
  rintro e w1 ⟨rfl, v1, k, g⟩
  replace H := hid k
  replace G := hid (G.out.trans g)
  clear k g
  go_wp2
  go_end0
  rw [HU.out]
  exact ⟨rfl, _, H.out, G.out⟩
set_option maxHeartbeats 1000000 in
set_option maxRecDepth 100000 in
theorem r45_52 (h : RAt b base s v w) (hs : s.Ok 15) : Calls Tryz.prog 45 #[.pointer (some ⟨b, 0, none⟩), .int .u8 52] w (RRan b base (runE (dialG 3 52) s) v w) := by
  have H := hid h
  have G := hid (Steps.refl b v w)
  have HS := hid hs
  have HO : Hid (s.O.length ≤ 40) := hid hs.O
  have HU : Hid (runE (dialG 3 52) s = runE (dialG 1 52) s) := hid (rfl)
  clear h hs
  go_enter Tryz.func45, Tryz.ntmps45
  go_wp2_with fail
  go_at_call 43
  refine (r43_52 H.out HS.out).mono ?_
  rintro e w1 ⟨rfl, v1, k, g⟩
  replace H := hid k
  replace G := hid (G.out.trans g)
  clear k g
  go_wp2
  go_end0
  rw [HU.out]
  exact ⟨rfl, _, H.out, G.out⟩
set_option maxHeartbeats 1000000 in
set_option maxRecDepth 100000 in
theorem r45_55 (h : RAt b base s v w) (hs : s.Ok 15) : Calls Tryz.prog 45 #[.pointer (some ⟨b, 0, none⟩), .int .u8 55] w (RRan b base (runE (dialG 3 55) s) v w) := by
  have H := hid h
  have G := hid (Steps.refl b v w)
  have HS := hid hs
  have HO : Hid (s.O.length ≤ 40) := hid hs.O
  have HU : Hid (runE (dialG 3 55) s = runE (dialG 1 55) s) := hid (rfl)
  clear h hs
  go_enter Tryz.func45, Tryz.ntmps45
  go_wp2_with fail
  go_at_call 43
  refine (r43_55 H.out HS.out).mono ?_
  rintro e w1 ⟨rfl, v1, k, g⟩
  replace H := hid k
  replace G := hid (G.out.trans g)
  clear k g
  go_wp2
  go_end0
  rw [HU.out]
  exact ⟨rfl, _, H.out, G.out⟩
set_option maxHeartbeats 1000000 in
set_option maxRecDepth 100000 in
theorem r45_56 (h : RAt b base s v w) (hs : s.Ok 15) : Calls Tryz.prog 45 #[.pointer (some ⟨b, 0, none⟩), .int .u8 56] w (RRan b base (runE (dialG 3 56) s) v w) := by
  have H := hid h
  have G := hid (Steps.refl b v w)
  have HS := hid hs
  have HO : Hid (s.O.length ≤ 40) := hid hs.O
  have HU : Hid (runE (dialG 3 56) s = runE (dialG 1 56) s) := hid (rfl)
  clear h hs
  go_enter Tryz.func45, Tryz.ntmps45
  go_wp2_with fail
  go_at_call 43
  refine (r43_56 H.out HS.out).mono ?_
  rintro e w1 ⟨rfl, v1, k, g⟩
  replace H := hid k
  replace G := hid (G.out.trans g)
  clear k g
  go_wp2
  go_end0
  rw [HU.out]
  exact ⟨rfl, _, H.out, G.out⟩
set_option maxHeartbeats 1000000 in
set_option maxRecDepth 100000 in
theorem r45_57 (h : RAt b base s v w) (hs : s.Ok 15) : Calls Tryz.prog 45 #[.pointer (some ⟨b, 0, none⟩), .int .u8 57] w (RRan b base (runE (dialG 3 57) s) v w) := by
  have H := hid h
  have G := hid (Steps.refl b v w)
  have HS := hid hs
  have HO : Hid (s.O.length ≤ 40) := hid hs.O
  have HU : Hid (runE (dialG 3 57) s = runE (dialG 1 57) s) := hid (rfl)
  clear h hs
  go_enter Tryz.func45, Tryz.ntmps45
  go_wp2_with fail
  go_at_call 43
  refine (r43_57 H.out HS.out).mono ?_
  rintro e w1 ⟨rfl, v1, k, g⟩
  replace H := hid k
  replace G := hid (G.out.trans g)
  clear k g
  go_wp2
  go_end0
  rw [HU.out]
  exact ⟨rfl, _, H.out, G.out⟩
set_option maxHeartbeats 1000000 in
set_option maxRecDepth 100000 in
theorem r45_66 (h : RAt b base s v w) (hs : s.Ok 15) : Calls Tryz.prog 45 #[.pointer (some ⟨b, 0, none⟩), .int .u8 66] w (RRan b base (runE (dialG 3 66) s) v w) := by
  have H := hid h
  have G := hid (Steps.refl b v w)
  have HS := hid hs
  have HO : Hid (s.O.length ≤ 40) := hid hs.O
  have HU : Hid (runE (dialG 3 66) s = runE (dialG 1 66) s) := hid (rfl)
  clear h hs
  go_enter Tryz.func45, Tryz.ntmps45
  go_wp2_with fail
  go_at_call 43
  refine (r43_66 H.out HS.out).mono ?_
  rintro e w1 ⟨rfl, v1, k, g⟩
  replace H := hid k
  replace G := hid (G.out.trans g)
  clear k g
  go_wp2
  go_end0
  rw [HU.out]
  exact ⟨rfl, _, H.out, G.out⟩
set_option maxHeartbeats 1000000 in
set_option maxRecDepth 100000 in
theorem r45_67 (h : RAt b base s v w) (hs : s.Ok 15) : Calls Tryz.prog 45 #[.pointer (some ⟨b, 0, none⟩), .int .u8 67] w (RRan b base (runE (dialG 3 67) s) v w) := by
  have H := hid h
  have G := hid (Steps.refl b v w)
  have HS := hid hs
  have HO : Hid (s.O.length ≤ 40) := hid hs.O
  have HU : Hid (runE (dialG 3 67) s = runE (dialG 1 67) s) := hid (rfl)
  clear h hs
  go_enter Tryz.func45, Tryz.ntmps45
  go_wp2_with fail
  go_at_call 43
  refine (r43_67 H.out HS.out).mono ?_
  rintro e w1 ⟨rfl, v1, k, g⟩
  replace H := hid k
  replace G := hid (G.out.trans g)
  clear k g
  go_wp2
  go_end0
  rw [HU.out]
  exact ⟨rfl, _, H.out, G.out⟩
set_option maxHeartbeats 1000000 in
set_option maxRecDepth 100000 in
theorem r45_68 (h : RAt b base s v w) (hs : s.Ok 15) : Calls Tryz.prog 45 #[.pointer (some ⟨b, 0, none⟩), .int .u8 68] w (RRan b base (runE (dialG 3 68) s) v w) := by
  have H := hid h
  have G := hid (Steps.refl b v w)
  have HS := hid hs
  have HO : Hid (s.O.length ≤ 40) := hid hs.O
  have HU : Hid (runE (dialG 3 68) s = runE (dialG 1 68) s) := hid (rfl)
  clear h hs
  go_enter Tryz.func45, Tryz.ntmps45
  go_wp2_with fail
  go_at_call 43
  refine (r43_68 H.out HS.out).mono ?_
  rintro e w1 ⟨rfl, v1, k, g⟩
  replace H := hid k
  replace G := hid (G.out.trans g)
  clear k g
  go_wp2
  go_end0
  rw [HU.out]
  exact ⟨rfl, _, H.out, G.out⟩
set_option maxHeartbeats 1000000 in
set_option maxRecDepth 100000 in
theorem r45_70 (h : RAt b base s v w) (hs : s.Ok 15) : Calls Tryz.prog 45 #[.pointer (some ⟨b, 0, none⟩), .int .u8 70] w (RRan b base (runE (dialG 3 70) s) v w) := by
  have H := hid h
  have G := hid (Steps.refl b v w)
  have HS := hid hs
  have HO : Hid (s.O.length ≤ 40) := hid hs.O
  have HU : Hid (runE (dialG 3 70) s = runE (dialG 1 70) s) := hid (rfl)
  clear h hs
  go_enter Tryz.func45, Tryz.ntmps45
  go_wp2_with fail
  go_at_call 43
  refine (r43_70 H.out HS.out).mono ?_
  rintro e w1 ⟨rfl, v1, k, g⟩
  replace H := hid k
  replace G := hid (G.out.trans g)
  clear k g
  go_wp2
  go_end0
  rw [HU.out]
  exact ⟨rfl, _, H.out, G.out⟩
set_option maxHeartbeats 1000000 in
set_option maxRecDepth 100000 in
theorem r45_49 (h : RAt b base s v w) (hs : s.Ok 15) : Calls Tryz.prog 45 #[.pointer (some ⟨b, 0, none⟩), .int .u8 49] w (RRan b base (runE (dialG 3 49) s) v w) := by
  have H := hid h
  have G := hid (Steps.refl b v w)
  have HS := hid hs
  have HO : Hid (s.O.length ≤ 40) := hid hs.O
  have HU : Hid (runE (dialG 3 49) s = runE (dialG 1 49) (s.whole 5)) := hid (rfl)
  clear h hs
  go_enter Tryz.func45, Tryz.ntmps45
  go_wp2_with fail
  go_at_call 41
  refine (rwhole 5 (by decide) H.out HS.out).mono ?_
  have HS2 := hid (St.Ok.whole HS.out (k := 5) (by decide))
  rintro e w1 ⟨rfl, v1, k, g⟩
  replace H := hid k
  replace G := hid (G.out.trans g)
  clear k g
  generalize hq1 : s.whole 5 = s1 at *
  clear hq1 HS HO
  have HS := HS2
  clear HS2
  have HO : Hid (s1.O.length ≤ 40) := hid HS.out.O
  go_wp2_with fail
  go_at_call 43
  refine (r43_49 H.out HS.out).mono ?_
  rintro e w2 ⟨rfl, v2, k, g⟩
  replace H := hid k
  replace G := hid (G.out.trans g)
  clear k g
  go_wp2
  go_end0
  rw [HU.out]
  exact ⟨rfl, _, H.out, G.out⟩
set_option maxHeartbeats 1000000 in
set_option maxRecDepth 100000 in
theorem r45_50 (h : RAt b base s v w) (hs : s.Ok 15) : Calls Tryz.prog 45 #[.pointer (some ⟨b, 0, none⟩), .int .u8 50] w (RRan b base (runE (dialG 3 50) s) v w) := by
  have H := hid h
  have G := hid (Steps.refl b v w)
  have HS := hid hs
  have HO : Hid (s.O.length ≤ 40) := hid hs.O
  have HU : Hid (runE (dialG 3 50) s = runE (dialG 1 50) (s.whole 6)) := hid (rfl)
  clear h hs
  go_enter Tryz.func45, Tryz.ntmps45
  go_wp2_with fail
  go_at_call 41
  refine (rwhole 6 (by decide) H.out HS.out).mono ?_
  have HS2 := hid (St.Ok.whole HS.out (k := 6) (by decide))
  rintro e w1 ⟨rfl, v1, k, g⟩
  replace H := hid k
  replace G := hid (G.out.trans g)
  clear k g
  generalize hq1 : s.whole 6 = s1 at *
  clear hq1 HS HO
  have HS := HS2
  clear HS2
  have HO : Hid (s1.O.length ≤ 40) := hid HS.out.O
  go_wp2_with fail
  go_at_call 43
  refine (r43_50 H.out HS.out).mono ?_
  rintro e w2 ⟨rfl, v2, k, g⟩
  replace H := hid k
  replace G := hid (G.out.trans g)
  clear k g
  go_wp2
  go_end0
  rw [HU.out]
  exact ⟨rfl, _, H.out, G.out⟩
set_option maxHeartbeats 1000000 in
set_option maxRecDepth 100000 in
theorem r45_53 (h : RAt b base s v w) (hs : s.Ok 15) : Calls Tryz.prog 45 #[.pointer (some ⟨b, 0, none⟩), .int .u8 53] w (RRan b base (runE (dialG 3 53) s) v w) := by
  have H := hid h
  have G := hid (Steps.refl b v w)
  have HS := hid hs
  have HO : Hid (s.O.length ≤ 40) := hid hs.O
  have HU : Hid (runE (dialG 3 53) s = runE (dialG 1 53) (s.whole 7)) := hid (rfl)
  clear h hs
  go_enter Tryz.func45, Tryz.ntmps45
  go_wp2_with fail
  go_at_call 41
  refine (rwhole 7 (by decide) H.out HS.out).mono ?_
  have HS2 := hid (St.Ok.whole HS.out (k := 7) (by decide))
  rintro e w1 ⟨rfl, v1, k, g⟩
  replace H := hid k
  replace G := hid (G.out.trans g)
  clear k g
  generalize hq1 : s.whole 7 = s1 at *
  clear hq1 HS HO
  have HS := HS2
  clear HS2
  have HO : Hid (s1.O.length ≤ 40) := hid HS.out.O
  go_wp2_with fail
  go_at_call 43
  refine (r43_53 H.out HS.out).mono ?_
  rintro e w2 ⟨rfl, v2, k, g⟩
  replace H := hid k
  replace G := hid (G.out.trans g)
  clear k g
  go_wp2
  go_end0
  rw [HU.out]
  exact ⟨rfl, _, H.out, G.out⟩
set_option maxHeartbeats 1000000 in
set_option maxRecDepth 100000 in
theorem r45_54 (h : RAt b base s v w) (hs : s.Ok 15) : Calls Tryz.prog 45 #[.pointer (some ⟨b, 0, none⟩), .int .u8 54] w (RRan b base (runE (dialG 3 54) s) v w) := by
  have H := hid h
  have G := hid (Steps.refl b v w)
  have HS := hid hs
  have HO : Hid (s.O.length ≤ 40) := hid hs.O
  have HU : Hid (runE (dialG 3 54) s = runE (dialG 1 54) (s.whole 7)) := hid (rfl)
  clear h hs
  go_enter Tryz.func45, Tryz.ntmps45
  go_wp2_with fail
  go_at_call 41
  refine (rwhole 7 (by decide) H.out HS.out).mono ?_
  have HS2 := hid (St.Ok.whole HS.out (k := 7) (by decide))
  rintro e w1 ⟨rfl, v1, k, g⟩
  replace H := hid k
  replace G := hid (G.out.trans g)
  clear k g
  generalize hq1 : s.whole 7 = s1 at *
  clear hq1 HS HO
  have HS := HS2
  clear HS2
  have HO : Hid (s1.O.length ≤ 40) := hid HS.out.O
  go_wp2_with fail
  go_at_call 43
  refine (r43_54 H.out HS.out).mono ?_
  rintro e w2 ⟨rfl, v2, k, g⟩
  replace H := hid k
  replace G := hid (G.out.trans g)
  clear k g
  go_wp2
  go_end0
  rw [HU.out]
  exact ⟨rfl, _, H.out, G.out⟩
set_option maxHeartbeats 1000000 in
set_option maxRecDepth 100000 in
theorem r45_65 (h : RAt b base s v w) (hs : s.Ok 15) : Calls Tryz.prog 45 #[.pointer (some ⟨b, 0, none⟩), .int .u8 65] w (RRan b base (runE (dialG 3 65) s) v w) := by
  have H := hid h
  have G := hid (Steps.refl b v w)
  have HS := hid hs
  have HO : Hid (s.O.length ≤ 40) := hid hs.O
  have HU : Hid (runE (dialG 3 65) s = runE (dialG 1 65) (s.whole 7)) := hid (rfl)
  clear h hs
  go_enter Tryz.func45, Tryz.ntmps45
  go_wp2_with fail
  go_at_call 41
  refine (rwhole 7 (by decide) H.out HS.out).mono ?_
  have HS2 := hid (St.Ok.whole HS.out (k := 7) (by decide))
  rintro e w1 ⟨rfl, v1, k, g⟩
  replace H := hid k
  replace G := hid (G.out.trans g)
  clear k g
  generalize hq1 : s.whole 7 = s1 at *
  clear hq1 HS HO
  have HS := HS2
  clear HS2
  have HO : Hid (s1.O.length ≤ 40) := hid HS.out.O
  go_wp2_with fail
  go_at_call 43
  refine (r43_65 H.out HS.out).mono ?_
  rintro e w2 ⟨rfl, v2, k, g⟩
  replace H := hid k
  replace G := hid (G.out.trans g)
  clear k g
  go_wp2
  go_end0
  rw [HU.out]
  exact ⟨rfl, _, H.out, G.out⟩
theorem fast2_other {x : Int} (h1 : x ≠ 1) (h2 : x ≠ 2) (h10 : x ≠ 10) (h11 : x ≠ 11) : fast2E x = extE x := by
  unfold fast2E turn2 fastH
  rw [if_neg h11, if_neg h10, if_neg h2, if_neg h1]
set_option maxHeartbeats 1000000 in
set_option maxRecDepth 100000 in
theorem r45_69 (h : RAt b base s v w) (hs : s.Ok 15) : Calls Tryz.prog 45 #[.pointer (some ⟨b, 0, none⟩), .int .u8 69] w (RRan b base (runE (dialG 3 69) s) v w) := by
  have H := hid h
  have G := hid (Steps.refl b v w)
  have HS := hid hs
  have HO : Hid (s.O.length ≤ 40) := hid hs.O
  have HU : Hid (runE (dialG 3 69) s = runE (fast2E s.h) s) := hid (rfl)
  clear h hs
  have hb := And.intro HS.out.h (And.intro HS.out.l HS.out.p)
  have hc : (s.h = 1) ∨ (s.h = 2) ∨ (s.h = 10) ∨ (s.h = 11) ∨ (s.h ≠ 1 ∧ s.h ≠ 2 ∧ s.h ≠ 10 ∧ s.h ≠ 11) := by omega
  rcases hc with hc | hc | hc | hc | hc
  · have Eh : Hid (s.h = 1) := hid (by omega)
    have ch : w.cell? ⟨b, 27, none⟩ = some (.int .i64 1) := H.out.ch.trans (congrArg (fun z => some (Value.int .i64 z)) Eh.out)
    have HL : Hid ((runE (fast2E s.h) s) = (runE (dialG 1 69) (s.low 8))) := hid (by show runE (fast2E s.h) s = runE (extE s.h) (s.low 8); rw [hc]; rfl)
    clear hc hb
    go_enter Tryz.func45, Tryz.ntmps45
    go_wp2_with fail
    go_at_call 60
    refine (rlow 8 (by decide) H.out).mono ?_
    have HS2 := hid (St.Ok.low HS.out (k := 8) (by decide))
    rintro e w1 ⟨rfl, v1, k, g⟩
    replace H := hid k
    replace G := hid (G.out.trans g)
    clear k g
    generalize hq1 : s.low 8 = s1 at *
    clear hq1 HS HO ch Eh
    have HS := HS2
    clear HS2
    have HO : Hid (s1.O.length ≤ 40) := hid HS.out.O
    have ch : w1.cell? ⟨b, 27, none⟩ = some (.int .i64 s1.h) := H.out.ch
    go_wp2_with fail
    go_at_call 43
    refine (r43_69 H.out HS.out).mono ?_
    rintro e w2 ⟨rfl, v2, k, g⟩
    replace H := hid k
    replace G := hid (G.out.trans g)
    clear k g
    go_wp2
    go_end0
    rw [HU.out, HL.out]
    exact ⟨rfl, _, H.out, G.out⟩
  · have Eh : Hid (s.h = 2) := hid (by omega)
    have ch : w.cell? ⟨b, 27, none⟩ = some (.int .i64 2) := H.out.ch.trans (congrArg (fun z => some (Value.int .i64 z)) Eh.out)
    have HL : Hid ((runE (fast2E s.h) s) = (runE (dialG 1 69) (s.low 9))) := hid (by show runE (fast2E s.h) s = runE (extE s.h) (s.low 9); rw [hc]; rfl)
    clear hc hb
    go_enter Tryz.func45, Tryz.ntmps45
    go_wp2_with fail
    go_at_call 60
    refine (rlow 9 (by decide) H.out).mono ?_
    have HS2 := hid (St.Ok.low HS.out (k := 9) (by decide))
    rintro e w1 ⟨rfl, v1, k, g⟩
    replace H := hid k
    replace G := hid (G.out.trans g)
    clear k g
    generalize hq1 : s.low 9 = s1 at *
    clear hq1 HS HO ch Eh
    have HS := HS2
    clear HS2
    have HO : Hid (s1.O.length ≤ 40) := hid HS.out.O
    have ch : w1.cell? ⟨b, 27, none⟩ = some (.int .i64 s1.h) := H.out.ch
    go_wp2_with fail
    go_at_call 43
    refine (r43_69 H.out HS.out).mono ?_
    rintro e w2 ⟨rfl, v2, k, g⟩
    replace H := hid k
    replace G := hid (G.out.trans g)
    clear k g
    go_wp2
    go_end0
    rw [HU.out, HL.out]
    exact ⟨rfl, _, H.out, G.out⟩
  · have Eh : Hid (s.h = 10) := hid (by omega)
    have ch : w.cell? ⟨b, 27, none⟩ = some (.int .i64 10) := H.out.ch.trans (congrArg (fun z => some (Value.int .i64 z)) Eh.out)
    have HL : Hid ((runE (fast2E s.h) s) = (runE (dialG 1 69) (s.low 10))) := hid (by show runE (fast2E s.h) s = runE (extE s.h) (s.low 10); rw [hc]; rfl)
    clear hc hb
    go_enter Tryz.func45, Tryz.ntmps45
    go_wp2_with fail
    go_at_call 60
    refine (rlow 10 (by decide) H.out).mono ?_
    have HS2 := hid (St.Ok.low HS.out (k := 10) (by decide))
    rintro e w1 ⟨rfl, v1, k, g⟩
    replace H := hid k
    replace G := hid (G.out.trans g)
    clear k g
    generalize hq1 : s.low 10 = s1 at *
    clear hq1 HS HO ch Eh
    have HS := HS2
    clear HS2
    have HO : Hid (s1.O.length ≤ 40) := hid HS.out.O
    have ch : w1.cell? ⟨b, 27, none⟩ = some (.int .i64 s1.h) := H.out.ch
    go_wp2_with fail
    go_at_call 43
    refine (r43_69 H.out HS.out).mono ?_
    rintro e w2 ⟨rfl, v2, k, g⟩
    replace H := hid k
    replace G := hid (G.out.trans g)
    clear k g
    go_wp2
    go_end0
    rw [HU.out, HL.out]
    exact ⟨rfl, _, H.out, G.out⟩
  · have Eh : Hid (s.h = 11) := hid (by omega)
    have ch : w.cell? ⟨b, 27, none⟩ = some (.int .i64 11) := H.out.ch.trans (congrArg (fun z => some (Value.int .i64 z)) Eh.out)
    have HL : Hid ((runE (fast2E s.h) s) = (runE (dialG 1 69) (s.low 11))) := hid (by show runE (fast2E s.h) s = runE (extE s.h) (s.low 11); rw [hc]; rfl)
    clear hc hb
    go_enter Tryz.func45, Tryz.ntmps45
    go_wp2_with fail
    go_at_call 60
    refine (rlow 11 (by decide) H.out).mono ?_
    have HS2 := hid (St.Ok.low HS.out (k := 11) (by decide))
    rintro e w1 ⟨rfl, v1, k, g⟩
    replace H := hid k
    replace G := hid (G.out.trans g)
    clear k g
    generalize hq1 : s.low 11 = s1 at *
    clear hq1 HS HO ch Eh
    have HS := HS2
    clear HS2
    have HO : Hid (s1.O.length ≤ 40) := hid HS.out.O
    have ch : w1.cell? ⟨b, 27, none⟩ = some (.int .i64 s1.h) := H.out.ch
    go_wp2_with fail
    go_at_call 43
    refine (r43_69 H.out HS.out).mono ?_
    rintro e w2 ⟨rfl, v2, k, g⟩
    replace H := hid k
    replace G := hid (G.out.trans g)
    clear k g
    go_wp2
    go_end0
    rw [HU.out, HL.out]
    exact ⟨rfl, _, H.out, G.out⟩
  · have f23 : (s.h == 1) = false := beq_false (by omega)
    have f24 : (s.h == 2) = false := beq_false (by omega)
    have f25 : (s.h == 10) = false := beq_false (by omega)
    have f26 : (s.h == 11) = false := beq_false (by omega)
    have ch : w.cell? ⟨b, 27, none⟩ = some (.int .i64 s.h) := H.out.ch
    have HL : Hid ((runE (fast2E s.h) s) = (runE (dialG 1 69) s)) := hid (by show runE (fast2E s.h) s = runE (extE s.h) s; rw [fast2_other (by omega) (by omega) (by omega) (by omega)])
    clear hc hb
    go_enter Tryz.func45, Tryz.ntmps45
    go_wp2_with fail
    go_at_call 43
    refine (r43_69 H.out (HS.out.more (by decide))).mono ?_
    rintro e w1 ⟨rfl, v1, k, g⟩
    replace H := hid k
    replace G := hid (G.out.trans g)
    clear k g
    go_wp2
    go_end0
    rw [HU.out, HL.out]
    exact ⟨rfl, _, H.out, G.out⟩
set_option maxHeartbeats 1000000 in
set_option maxRecDepth 100000 in
theorem r45_71 (h : RAt b base s v w) (hs : s.Ok 15) : Calls Tryz.prog 45 #[.pointer (some ⟨b, 0, none⟩), .int .u8 71] w (RRan b base (runE (dialG 3 71) s) v w) := by
  have H := hid h
  have G := hid (Steps.refl b v w)
  have HS := hid hs
  have HO : Hid (s.O.length ≤ 40) := hid hs.O
  have HU : Hid (runE (dialG 3 71) s = s.ask 28 (2 * min s.p 64) 0) := hid (rfl)
  clear h hs
  have hb := And.intro HS.out.h (And.intro HS.out.l HS.out.p)
  have hc : (64 < s.p) ∨ (s.p ≤ 64) := by omega
  rcases hc with hc | hc
  · have f27 : 64 < s.p := by omega
    have cp : w.cell? ⟨b, 26, none⟩ = some (.int .i64 s.p) := H.out.cp
    obtain ⟨p0, p1⟩ : 0 ≤ s.p ∧ s.p ≤ 255 := HS.out.p
    have HL : Hid ((s.ask 28 (2 * min s.p 64) 0) = (s.ask 28 (2 * 64) 0)) := hid (by show s.ask 28 (2 * (min s.p 64)) 0 = _; congr 1; omega)
    clear hc hb
    go_enter Tryz.func45, Tryz.ntmps45
    go_wp2_with fail
    go_at_call 39
    refine (rop _ _ _ H.out (by have := HO.out; (try simp only [St.ask_len]); omega)).mono ?_
    rintro e w1 ⟨rfl, v1, k, g⟩
    replace H := hid k
    replace G := hid (G.out.trans g)
    clear k g
    go_wp2
    go_end0
    rw [HU.out, HL.out]
    exact ⟨rfl, _, H.out, G.out⟩
  · have f28 : ¬ 64 < s.p := by omega
    have cp : w.cell? ⟨b, 26, none⟩ = some (.int .i64 s.p) := H.out.cp
    obtain ⟨p0, p1⟩ : 0 ≤ s.p ∧ s.p ≤ 255 := HS.out.p
    have HL : Hid ((s.ask 28 (2 * min s.p 64) 0) = (s.ask 28 (2 * s.p) 0)) := hid (by show s.ask 28 (2 * (min s.p 64)) 0 = _; congr 1; omega)
    clear hc hb
    go_enter Tryz.func45, Tryz.ntmps45
    go_wp2_with fail
    go_at_call 39
    refine (rop _ _ _ H.out (by have := HO.out; (try simp only [St.ask_len]); omega)).mono ?_
    rintro e w1 ⟨rfl, v1, k, g⟩
    replace H := hid k
    replace G := hid (G.out.trans g)
    clear k g
    go_wp2
    go_end0
    rw [HU.out, HL.out]
    exact ⟨rfl, _, H.out, G.out⟩
set_option maxHeartbeats 1000000 in
set_option maxRecDepth 100000 in
theorem r45_72 (h : RAt b base s v w) (hs : s.Ok 15) : Calls Tryz.prog 45 #[.pointer (some ⟨b, 0, none⟩), .int .u8 72] w (RRan b base (runE (dialG 3 72) s) v w) := by
  have H := hid h
  have G := hid (Steps.refl b v w)
  have HS := hid hs
  have HO : Hid (s.O.length ≤ 40) := hid hs.O
  have HU : Hid (runE (dialG 3 72) s = (s.whole 12).ask 29 (s.whole 12).h (s.whole 12).l) := hid (rfl)
  clear h hs
  have ch : w.cell? ⟨b, 27, none⟩ = some (.int .i64 s.h) := H.out.ch
  have cl : w.cell? ⟨b, 28, none⟩ = some (.int .i64 s.l) := H.out.cl
  go_enter Tryz.func45, Tryz.ntmps45
  go_wp2_with fail
  go_at_call 41
  refine (rwhole 12 (by decide) H.out HS.out).mono ?_
  have HS2 := hid (St.Ok.whole HS.out (k := 12) (by decide))
  rintro e w1 ⟨rfl, v1, k, g⟩
  replace H := hid k
  replace G := hid (G.out.trans g)
  clear k g
  generalize hq1 : s.whole 12 = s1 at *
  clear hq1 HS HO ch cl
  have HS := HS2
  clear HS2
  have HO : Hid (s1.O.length ≤ 40) := hid HS.out.O
  have ch : w1.cell? ⟨b, 27, none⟩ = some (.int .i64 s1.h) := H.out.ch
  have cl : w1.cell? ⟨b, 28, none⟩ = some (.int .i64 s1.l) := H.out.cl
  go_wp2
  go_still_tail 9, (by kernel_rfl)
  change wpList _ _ _ _ _ w1.drew
  replace H := hid H.out.drew
  go_wp2_with fail
  go_at_call 39
  refine (rop _ _ _ H.out (by have := HO.out; (try simp only [St.ask_len]); omega)).mono ?_
  rintro e w2 ⟨rfl, v2, k, g⟩
  replace H := hid k
  replace G := hid (G.out.trans g.drewl)
  clear k g
  go_wp2
  go_end0
  rw [HU.out]
  exact ⟨rfl, _, H.out, G.out⟩
set_option maxHeartbeats 1000000 in
set_option maxRecDepth 100000 in
theorem r45_75 (h : RAt b base s v w) (hs : s.Ok 15) : Calls Tryz.prog 45 #[.pointer (some ⟨b, 0, none⟩), .int .u8 75] w (RRan b base (runE (dialG 3 75) s) v w) := by
  have H := hid h
  have G := hid (Steps.refl b v w)
  have HS := hid hs
  have HO : Hid (s.O.length ≤ 40) := hid hs.O
  have HU : Hid (runE (dialG 3 75) s = s.ask 23 s.p 0) := hid (rfl)
  clear h hs
  have cp : w.cell? ⟨b, 26, none⟩ = some (.int .i64 s.p) := H.out.cp
  go_enter Tryz.func45, Tryz.ntmps45
  go_wp2_with fail
  go_at_call 39
  refine (rop _ _ _ H.out (by have := HO.out; (try simp only [St.ask_len]); omega)).mono ?_
  rintro e w1 ⟨rfl, v1, k, g⟩
  replace H := hid k
  replace G := hid (G.out.trans g)
  clear k g
  go_wp2
  go_end0
  rw [HU.out]
  exact ⟨rfl, _, H.out, G.out⟩
set_option maxHeartbeats 1000000 in
set_option maxRecDepth 100000 in
theorem r45_76 (h : RAt b base s v w) (hs : s.Ok 15) : Calls Tryz.prog 45 #[.pointer (some ⟨b, 0, none⟩), .int .u8 76] w (RRan b base (runE (dialG 3 76) s) v w) := by
  have H := hid h
  have G := hid (Steps.refl b v w)
  have HS := hid hs
  have HO : Hid (s.O.length ≤ 40) := hid hs.O
  have HU : Hid (runE (dialG 3 76) s = s.ask 39 s.p 0) := hid (rfl)
  clear h hs
  have cp : w.cell? ⟨b, 26, none⟩ = some (.int .i64 s.p) := H.out.cp
  go_enter Tryz.func45, Tryz.ntmps45
  go_wp2_with fail
  go_at_call 39
  refine (rop _ _ _ H.out (by have := HO.out; (try simp only [St.ask_len]); omega)).mono ?_
  rintro e w1 ⟨rfl, v1, k, g⟩
  replace H := hid k
  replace G := hid (G.out.trans g)
  clear k g
  go_wp2
  go_end0
  rw [HU.out]
  exact ⟨rfl, _, H.out, G.out⟩
set_option maxHeartbeats 1000000 in
set_option maxRecDepth 100000 in
theorem r45_80 (h : RAt b base s v w) (hs : s.Ok 15) : Calls Tryz.prog 45 #[.pointer (some ⟨b, 0, none⟩), .int .u8 80] w (RRan b base (runE (dialG 3 80) s) v w) := by
  have H := hid h
  have G := hid (Steps.refl b v w)
  have HS := hid hs
  have HO : Hid (s.O.length ≤ 40) := hid hs.O
  have HU : Hid (runE (dialG 3 80) s = (s.whole 13).ask 17 (s.whole 13).h (s.whole 13).l) := hid (rfl)
  clear h hs
  have ch : w.cell? ⟨b, 27, none⟩ = some (.int .i64 s.h) := H.out.ch
  have cl : w.cell? ⟨b, 28, none⟩ = some (.int .i64 s.l) := H.out.cl
  go_enter Tryz.func45, Tryz.ntmps45
  go_wp2_with fail
  go_at_call 41
  refine (rwhole 13 (by decide) H.out HS.out).mono ?_
  have HS2 := hid (St.Ok.whole HS.out (k := 13) (by decide))
  rintro e w1 ⟨rfl, v1, k, g⟩
  replace H := hid k
  replace G := hid (G.out.trans g)
  clear k g
  generalize hq1 : s.whole 13 = s1 at *
  clear hq1 HS HO ch cl
  have HS := HS2
  clear HS2
  have HO : Hid (s1.O.length ≤ 40) := hid HS.out.O
  have ch : w1.cell? ⟨b, 27, none⟩ = some (.int .i64 s1.h) := H.out.ch
  have cl : w1.cell? ⟨b, 28, none⟩ = some (.int .i64 s1.l) := H.out.cl
  go_wp2
  go_still_tail 9, (by kernel_rfl)
  change wpList _ _ _ _ _ w1.drew
  replace H := hid H.out.drew
  go_wp2_with fail
  go_at_call 39
  refine (rop _ _ _ H.out (by have := HO.out; (try simp only [St.ask_len]); omega)).mono ?_
  rintro e w2 ⟨rfl, v2, k, g⟩
  replace H := hid k
  replace G := hid (G.out.trans g.drewl)
  clear k g
  go_wp2
  go_end0
  rw [HU.out]
  exact ⟨rfl, _, H.out, G.out⟩
set_option maxHeartbeats 1000000 in
set_option maxRecDepth 100000 in
theorem r45_82 (h : RAt b base s v w) (hs : s.Ok 15) : Calls Tryz.prog 45 #[.pointer (some ⟨b, 0, none⟩), .int .u8 82] w (RRan b base (runE (dialG 3 82) s) v w) := by
  have H := hid h
  have G := hid (Steps.refl b v w)
  have HS := hid hs
  have HO : Hid (s.O.length ≤ 40) := hid hs.O
  have HU : Hid (runE (dialG 3 82) s = (s.halves 14).ask 19 (s.halves 14).l (s.halves 14).h) := hid (rfl)
  clear h hs
  have ch : w.cell? ⟨b, 27, none⟩ = some (.int .i64 s.h) := H.out.ch
  have cl : w.cell? ⟨b, 28, none⟩ = some (.int .i64 s.l) := H.out.cl
  go_enter Tryz.func45, Tryz.ntmps45
  go_wp2_with fail
  go_at_call 42
  refine (rhalves 14 (by decide) H.out HS.out).mono ?_
  have HS2 := hid (St.Ok.halves HS.out (k := 14) (by decide))
  rintro e w1 ⟨rfl, v1, k, g⟩
  replace H := hid k
  replace G := hid (G.out.trans g)
  clear k g
  generalize hq1 : s.halves 14 = s1 at *
  clear hq1 HS HO ch cl
  have HS := HS2
  clear HS2
  have HO : Hid (s1.O.length ≤ 40) := hid HS.out.O
  have ch : w1.cell? ⟨b, 27, none⟩ = some (.int .i64 s1.h) := H.out.ch
  have cl : w1.cell? ⟨b, 28, none⟩ = some (.int .i64 s1.l) := H.out.cl
  go_wp2
  go_still_tail 9, (by kernel_rfl)
  change wpList _ _ _ _ _ w1.drew
  replace H := hid H.out.drew
  go_wp2_with fail
  go_at_call 39
  refine (rop _ _ _ H.out (by have := HO.out; (try simp only [St.ask_len]); omega)).mono ?_
  rintro e w2 ⟨rfl, v2, k, g⟩
  replace H := hid k
  replace G := hid (G.out.trans g.drewl)
  clear k g
  go_wp2
  go_end0
  rw [HU.out]
  exact ⟨rfl, _, H.out, G.out⟩
set_option maxHeartbeats 1000000 in
set_option maxRecDepth 100000 in
theorem r45_84 (h : RAt b base s v w) (hs : s.Ok 15) : Calls Tryz.prog 45 #[.pointer (some ⟨b, 0, none⟩), .int .u8 84] w (RRan b base (runE (dialG 3 84) s) v w) := by
  have H := hid h
  have G := hid (Steps.refl b v w)
  have HS := hid hs
  have HO : Hid (s.O.length ≤ 40) := hid hs.O
  have HU : Hid (runE (dialG 3 84) s = (s.whole 15).ask 20 ((s.whole 15).h + 1) ((s.whole 15).l + 1)) := hid (rfl)
  clear h hs
  have ch : w.cell? ⟨b, 27, none⟩ = some (.int .i64 s.h) := H.out.ch
  have cl : w.cell? ⟨b, 28, none⟩ = some (.int .i64 s.l) := H.out.cl
  obtain ⟨h0, h1⟩ : 0 ≤ s.h ∧ s.h ≤ 15 := HS.out.h
  obtain ⟨l0, l1⟩ : 0 ≤ s.l ∧ s.l ≤ 15 := HS.out.l
  go_enter Tryz.func45, Tryz.ntmps45
  go_wp2_with fail
  go_at_call 41
  refine (rwhole 15 (by decide) H.out HS.out).mono ?_
  have HS2 := hid (St.Ok.whole HS.out (k := 15) (by decide))
  rintro e w1 ⟨rfl, v1, k, g⟩
  replace H := hid k
  replace G := hid (G.out.trans g)
  clear k g
  generalize hq1 : s.whole 15 = s1 at *
  clear hq1 HS HO ch h0 h1 cl l0 l1
  have HS := HS2
  clear HS2
  have HO : Hid (s1.O.length ≤ 40) := hid HS.out.O
  have ch : w1.cell? ⟨b, 27, none⟩ = some (.int .i64 s1.h) := H.out.ch
  have cl : w1.cell? ⟨b, 28, none⟩ = some (.int .i64 s1.l) := H.out.cl
  obtain ⟨h0, h1⟩ : 0 ≤ s1.h ∧ s1.h ≤ 15 := HS.out.h
  obtain ⟨l0, l1⟩ : 0 ≤ s1.l ∧ s1.l ≤ 15 := HS.out.l
  go_wp2
  go_still_tail 11, (by kernel_rfl)
  change wpList _ _ _ _ _ w1.drew
  replace H := hid H.out.drew
  go_wp2_with fail
  go_at_call 39
  refine (rop _ _ _ H.out (by have := HO.out; (try simp only [St.ask_len]); omega)).mono ?_
  rintro e w2 ⟨rfl, v2, k, g⟩
  replace H := hid k
  replace G := hid (G.out.trans g.drewl)
  clear k g
  go_wp2
  go_end0
  rw [HU.out]
  exact ⟨rfl, _, H.out, G.out⟩
theorem fastX_other {x : Int} (h1 : x ≠ 1) (h2 : x ≠ 2) : fastX x = .nil := by
  unfold fastX upd
  rw [if_neg h2, if_neg h1]
set_option maxHeartbeats 1000000 in
set_option maxRecDepth 100000 in
theorem r45_88 (h : RAt b base s v w) (hs : s.Ok 15) : Calls Tryz.prog 45 #[.pointer (some ⟨b, 0, none⟩), .int .u8 88] w (RRan b base (runE (dialG 3 88) s) v w) := by
  have H := hid h
  have G := hid (Steps.refl b v w)
  have HS := hid hs
  have HO : Hid (s.O.length ≤ 40) := hid hs.O
  have HU : Hid (runE (dialG 3 88) s = runE (fastX s.h) s) := hid (rfl)
  clear h hs
  have hb := And.intro HS.out.h (And.intro HS.out.l HS.out.p)
  have hc : (s.h = 1) ∨ (s.h = 2) ∨ (s.h ≠ 1 ∧ s.h ≠ 2) := by omega
  rcases hc with hc | hc | hc
  · have Eh : Hid (s.h = 1) := hid (by omega)
    have ch : w.cell? ⟨b, 27, none⟩ = some (.int .i64 1) := H.out.ch.trans (congrArg (fun z => some (Value.int .i64 z)) Eh.out)
    have cl : w.cell? ⟨b, 28, none⟩ = some (.int .i64 s.l) := H.out.cl
    have HL : Hid ((runE (fastX s.h) s) = ((s.low 16).ask 6 (s.low 16).l 0)) := hid (by rw [hc]; rfl)
    clear hc hb
    go_enter Tryz.func45, Tryz.ntmps45
    go_wp2_with fail
    go_at_call 60
    refine (rlow 16 (by decide) H.out).mono ?_
    have HS2 := hid (St.Ok.low HS.out (k := 16) (by decide))
    rintro e w1 ⟨rfl, v1, k, g⟩
    replace H := hid k
    replace G := hid (G.out.trans g)
    clear k g
    generalize hq1 : s.low 16 = s1 at *
    clear hq1 HS HO ch cl Eh
    have HS := HS2
    clear HS2
    have HO : Hid (s1.O.length ≤ 40) := hid HS.out.O
    have ch : w1.cell? ⟨b, 27, none⟩ = some (.int .i64 s1.h) := H.out.ch
    have cl : w1.cell? ⟨b, 28, none⟩ = some (.int .i64 s1.l) := H.out.cl
    go_wp2_with fail
    go_at_call 39
    refine (rop _ _ _ H.out (by have := HO.out; (try simp only [St.ask_len]); omega)).mono ?_
    rintro e w2 ⟨rfl, v2, k, g⟩
    replace H := hid k
    replace G := hid (G.out.trans g)
    clear k g
    go_wp2
    go_end0
    rw [HU.out, HL.out]
    exact ⟨rfl, _, H.out, G.out⟩
  · have Eh : Hid (s.h = 2) := hid (by omega)
    have ch : w.cell? ⟨b, 27, none⟩ = some (.int .i64 2) := H.out.ch.trans (congrArg (fun z => some (Value.int .i64 z)) Eh.out)
    have cl : w.cell? ⟨b, 28, none⟩ = some (.int .i64 s.l) := H.out.cl
    have HL : Hid ((runE (fastX s.h) s) = ((s.low 17).ask 7 (s.low 17).l 0)) := hid (by rw [hc]; rfl)
    clear hc hb
    go_enter Tryz.func45, Tryz.ntmps45
    go_wp2_with fail
    go_at_call 60
    refine (rlow 17 (by decide) H.out).mono ?_
    have HS2 := hid (St.Ok.low HS.out (k := 17) (by decide))
    rintro e w1 ⟨rfl, v1, k, g⟩
    replace H := hid k
    replace G := hid (G.out.trans g)
    clear k g
    generalize hq1 : s.low 17 = s1 at *
    clear hq1 HS HO ch cl Eh
    have HS := HS2
    clear HS2
    have HO : Hid (s1.O.length ≤ 40) := hid HS.out.O
    have ch : w1.cell? ⟨b, 27, none⟩ = some (.int .i64 s1.h) := H.out.ch
    have cl : w1.cell? ⟨b, 28, none⟩ = some (.int .i64 s1.l) := H.out.cl
    go_wp2_with fail
    go_at_call 39
    refine (rop _ _ _ H.out (by have := HO.out; (try simp only [St.ask_len]); omega)).mono ?_
    rintro e w2 ⟨rfl, v2, k, g⟩
    replace H := hid k
    replace G := hid (G.out.trans g)
    clear k g
    go_wp2
    go_end0
    rw [HU.out, HL.out]
    exact ⟨rfl, _, H.out, G.out⟩
  · have f29 : (s.h == 1) = false := beq_false (by omega)
    have f30 : (s.h == 2) = false := beq_false (by omega)
    have ch : w.cell? ⟨b, 27, none⟩ = some (.int .i64 s.h) := H.out.ch
    have cl : w.cell? ⟨b, 28, none⟩ = some (.int .i64 s.l) := H.out.cl
    have HL : Hid ((runE (fastX s.h) s) = (s)) := hid (by rw [fastX_other (by omega) (by omega)]; rfl)
    clear hc hb
    go_enter Tryz.func45, Tryz.ntmps45
    go_wp2
    go_end0
    rw [HU.out, HL.out]
    exact ⟨rfl, _, H.out, G.out⟩
end
end Go.Proofs.YtkpielgdfahanaaGreat
