/- The reference's volume column. -/
import Derived.Test.YtkpielgdfahanaaGreatRSt
import Derived.Test.YtkpielgdfahanaaGreatIndex
namespace Go.Proofs.YtkpielgdfahanaaGreat
open Go.RowKit Go.Maps
section
variable {b base : Nat} {d : Int} {s : St} {v : Value} {w : World}
theorem RAt.later {w' : World} (h : RAt b base s v w) (hb : Below w.heap.size w w') : RAt b base s v w' :=
  ⟨h.len, h.at_.keep (hb.block _ h.at_.lt), h.own.kept (below_grown hb) (by cases v.ownBlock; exact Or.inl rfl; exact Or.inr (by simp)), h.ne, h.base⟩
set_option maxHeartbeats 1000000 in
set_option maxRecDepth 100000 in
theorem rcol1 (h : RAt b base s v w) (hs : s.Ok 15) (arg : Int) (a0 : 0 ≤ arg) (a1 : arg ≤ 99) : Calls Tryz.prog 31 #[.pointer (some ⟨b, 0, none⟩), .int .i64 d, .int .i64 1, .int .i64 arg] w (RRan b base (colE (d == 3) 1 arg s) v w) := by
  have H := hid h
  have G := hid (Steps.refl b v w)
  have HS := hid hs
  have HO : Hid (s.O.length ≤ 40) := hid hs.O
  clear h hs
  have hb := And.intro HS.out.h (And.intro HS.out.l HS.out.p)
  have hc : (d = 4 ∧ 64 < arg) ∨ (d = 4 ∧ arg ≤ 64) ∨ (d ≠ 4 ∧ 64 < arg) ∨ (d ≠ 4 ∧ arg ≤ 64) := by omega
  rcases hc with hc | hc | hc | hc
  · have f0 : (d == 4) = true := beq_true (by omega)
    have f2 : 64 < arg := by omega
    have HL : Hid ((colE (d == 3) 1 arg s) = (s.ask 15 (64) 0)) := hid (by show s.ask 15 ((min arg 64)) 0 = _; congr 1; omega)
    clear hc hb
    go_enter Tryz.func31, Tryz.ntmps31
    go_wp2_with fail
    go_at_call 39
    refine (rop _ _ _ H.out (by have := HO.out; (try simp only [St.ask_len]); omega)).mono ?_
    rintro e w1 ⟨rfl, v1, k, g⟩
    replace H := hid k
    replace G := hid (G.out.trans g)
    clear k g
    go_wp2
    go_end0
    rw [HL.out]
    exact ⟨rfl, _, H.out, G.out⟩
  · have f0 : (d == 4) = true := beq_true (by omega)
    have f3 : ¬ 64 < arg := by omega
    have HL : Hid ((colE (d == 3) 1 arg s) = (s.ask 15 (arg) 0)) := hid (by show s.ask 15 ((min arg 64)) 0 = _; congr 1; omega)
    clear hc hb
    go_enter Tryz.func31, Tryz.ntmps31
    go_wp2_with fail
    go_at_call 39
    refine (rop _ _ _ H.out (by have := HO.out; (try simp only [St.ask_len]); omega)).mono ?_
    rintro e w1 ⟨rfl, v1, k, g⟩
    replace H := hid k
    replace G := hid (G.out.trans g)
    clear k g
    go_wp2
    go_end0
    rw [HL.out]
    exact ⟨rfl, _, H.out, G.out⟩
  · have f1 : (d == 4) = false := beq_false (by omega)
    have f4 : 64 < arg := by omega
    have HL : Hid ((colE (d == 3) 1 arg s) = (s.ask 15 (64) 0)) := hid (by show s.ask 15 ((min arg 64)) 0 = _; congr 1; omega)
    clear hc hb
    go_enter Tryz.func31, Tryz.ntmps31
    go_wp2_with fail
    go_at_call 39
    refine (rop _ _ _ H.out (by have := HO.out; (try simp only [St.ask_len]); omega)).mono ?_
    rintro e w1 ⟨rfl, v1, k, g⟩
    replace H := hid k
    replace G := hid (G.out.trans g)
    clear k g
    go_wp2
    go_end0
    rw [HL.out]
    exact ⟨rfl, _, H.out, G.out⟩
  · have f1 : (d == 4) = false := beq_false (by omega)
    have f5 : ¬ 64 < arg := by omega
    have HL : Hid ((colE (d == 3) 1 arg s) = (s.ask 15 (arg) 0)) := hid (by show s.ask 15 ((min arg 64)) 0 = _; congr 1; omega)
    clear hc hb
    go_enter Tryz.func31, Tryz.ntmps31
    go_wp2_with fail
    go_at_call 39
    refine (rop _ _ _ H.out (by have := HO.out; (try simp only [St.ask_len]); omega)).mono ?_
    rintro e w1 ⟨rfl, v1, k, g⟩
    replace H := hid k
    replace G := hid (G.out.trans g)
    clear k g
    go_wp2
    go_end0
    rw [HL.out]
    exact ⟨rfl, _, H.out, G.out⟩
set_option maxHeartbeats 1000000 in
set_option maxRecDepth 100000 in
theorem rcol2 (h : RAt b base s v w) (hs : s.Ok 15) (arg : Int) : Calls Tryz.prog 31 #[.pointer (some ⟨b, 0, none⟩), .int .i64 d, .int .i64 2, .int .i64 arg] w (RRan b base (colE (d == 3) 2 arg s) v w) := by
  have H := hid h
  have G := hid (Steps.refl b v w)
  have HS := hid hs
  have HO : Hid (s.O.length ≤ 40) := hid hs.O
  clear h hs
  have hb := And.intro HS.out.h (And.intro HS.out.l HS.out.p)
  have hc : (d = 4) ∨ (d ≠ 4) := by omega
  rcases hc with hc | hc
  · have f0 : (d == 4) = true := beq_true (by omega)
    have HL : Hid ((colE (d == 3) 2 arg s) = (s.ask 12 arg 0)) := hid (rfl)
    clear hc hb
    go_enter Tryz.func31, Tryz.ntmps31
    go_wp2_with fail
    go_at_call 39
    refine (rop _ _ _ H.out (by have := HO.out; (try simp only [St.ask_len]); omega)).mono ?_
    rintro e w1 ⟨rfl, v1, k, g⟩
    replace H := hid k
    replace G := hid (G.out.trans g)
    clear k g
    go_wp2
    go_end0
    rw [HL.out]
    exact ⟨rfl, _, H.out, G.out⟩
  · have f1 : (d == 4) = false := beq_false (by omega)
    have HL : Hid ((colE (d == 3) 2 arg s) = (s.ask 12 arg 0)) := hid (rfl)
    clear hc hb
    go_enter Tryz.func31, Tryz.ntmps31
    go_wp2_with fail
    go_at_call 39
    refine (rop _ _ _ H.out (by have := HO.out; (try simp only [St.ask_len]); omega)).mono ?_
    rintro e w1 ⟨rfl, v1, k, g⟩
    replace H := hid k
    replace G := hid (G.out.trans g)
    clear k g
    go_wp2
    go_end0
    rw [HL.out]
    exact ⟨rfl, _, H.out, G.out⟩
set_option maxHeartbeats 1000000 in
set_option maxRecDepth 100000 in
theorem rcol3 (h : RAt b base s v w) (hs : s.Ok 15) (arg : Int) : Calls Tryz.prog 31 #[.pointer (some ⟨b, 0, none⟩), .int .i64 d, .int .i64 3, .int .i64 arg] w (RRan b base (colE (d == 3) 3 arg s) v w) := by
  have H := hid h
  have G := hid (Steps.refl b v w)
  have HS := hid hs
  have HO : Hid (s.O.length ≤ 40) := hid hs.O
  clear h hs
  have hb := And.intro HS.out.h (And.intro HS.out.l HS.out.p)
  have hc : (d = 4) ∨ (d ≠ 4) := by omega
  rcases hc with hc | hc
  · have f0 : (d == 4) = true := beq_true (by omega)
    have HL : Hid ((colE (d == 3) 3 arg s) = (s.ask 12 0 arg)) := hid (rfl)
    clear hc hb
    go_enter Tryz.func31, Tryz.ntmps31
    go_wp2_with fail
    go_at_call 39
    refine (rop _ _ _ H.out (by have := HO.out; (try simp only [St.ask_len]); omega)).mono ?_
    rintro e w1 ⟨rfl, v1, k, g⟩
    replace H := hid k
    replace G := hid (G.out.trans g)
    clear k g
    go_wp2
    go_end0
    rw [HL.out]
    exact ⟨rfl, _, H.out, G.out⟩
  · have f1 : (d == 4) = false := beq_false (by omega)
    have HL : Hid ((colE (d == 3) 3 arg s) = (s.ask 12 0 arg)) := hid (rfl)
    clear hc hb
    go_enter Tryz.func31, Tryz.ntmps31
    go_wp2_with fail
    go_at_call 39
    refine (rop _ _ _ H.out (by have := HO.out; (try simp only [St.ask_len]); omega)).mono ?_
    rintro e w1 ⟨rfl, v1, k, g⟩
    replace H := hid k
    replace G := hid (G.out.trans g)
    clear k g
    go_wp2
    go_end0
    rw [HL.out]
    exact ⟨rfl, _, H.out, G.out⟩
set_option maxHeartbeats 1000000 in
set_option maxRecDepth 100000 in
theorem rcol4 (h : RAt b base s v w) (hs : s.Ok 15) (arg : Int) : Calls Tryz.prog 31 #[.pointer (some ⟨b, 0, none⟩), .int .i64 d, .int .i64 4, .int .i64 arg] w (RRan b base (colE (d == 3) 4 arg s) v w) := by
  have H := hid h
  have G := hid (Steps.refl b v w)
  have HS := hid hs
  have HO : Hid (s.O.length ≤ 40) := hid hs.O
  clear h hs
  have hb := And.intro HS.out.h (And.intro HS.out.l HS.out.p)
  have hc : (d = 4) ∨ (d ≠ 4) := by omega
  rcases hc with hc | hc
  · have f0 : (d == 4) = true := beq_true (by omega)
    have HL : Hid ((colE (d == 3) 4 arg s) = (s.ask 13 arg 0)) := hid (rfl)
    clear hc hb
    go_enter Tryz.func31, Tryz.ntmps31
    go_wp2_with fail
    go_at_call 39
    refine (rop _ _ _ H.out (by have := HO.out; (try simp only [St.ask_len]); omega)).mono ?_
    rintro e w1 ⟨rfl, v1, k, g⟩
    replace H := hid k
    replace G := hid (G.out.trans g)
    clear k g
    go_wp2
    go_end0
    rw [HL.out]
    exact ⟨rfl, _, H.out, G.out⟩
  · have f1 : (d == 4) = false := beq_false (by omega)
    have HL : Hid ((colE (d == 3) 4 arg s) = (s.ask 13 arg 0)) := hid (rfl)
    clear hc hb
    go_enter Tryz.func31, Tryz.ntmps31
    go_wp2_with fail
    go_at_call 39
    refine (rop _ _ _ H.out (by have := HO.out; (try simp only [St.ask_len]); omega)).mono ?_
    rintro e w1 ⟨rfl, v1, k, g⟩
    replace H := hid k
    replace G := hid (G.out.trans g)
    clear k g
    go_wp2
    go_end0
    rw [HL.out]
    exact ⟨rfl, _, H.out, G.out⟩
set_option maxHeartbeats 1000000 in
set_option maxRecDepth 100000 in
theorem rcol5 (h : RAt b base s v w) (hs : s.Ok 15) (arg : Int) : Calls Tryz.prog 31 #[.pointer (some ⟨b, 0, none⟩), .int .i64 d, .int .i64 5, .int .i64 arg] w (RRan b base (colE (d == 3) 5 arg s) v w) := by
  have H := hid h
  have G := hid (Steps.refl b v w)
  have HS := hid hs
  have HO : Hid (s.O.length ≤ 40) := hid hs.O
  clear h hs
  have hb := And.intro HS.out.h (And.intro HS.out.l HS.out.p)
  have hc : (d = 4) ∨ (d ≠ 4) := by omega
  rcases hc with hc | hc
  · have f0 : (d == 4) = true := beq_true (by omega)
    have HL : Hid ((colE (d == 3) 5 arg s) = (s.ask 14 arg 0)) := hid (rfl)
    clear hc hb
    go_enter Tryz.func31, Tryz.ntmps31
    go_wp2_with fail
    go_at_call 39
    refine (rop _ _ _ H.out (by have := HO.out; (try simp only [St.ask_len]); omega)).mono ?_
    rintro e w1 ⟨rfl, v1, k, g⟩
    replace H := hid k
    replace G := hid (G.out.trans g)
    clear k g
    go_wp2
    go_end0
    rw [HL.out]
    exact ⟨rfl, _, H.out, G.out⟩
  · have f1 : (d == 4) = false := beq_false (by omega)
    have HL : Hid ((colE (d == 3) 5 arg s) = (s.ask 14 arg 0)) := hid (rfl)
    clear hc hb
    go_enter Tryz.func31, Tryz.ntmps31
    go_wp2_with fail
    go_at_call 39
    refine (rop _ _ _ H.out (by have := HO.out; (try simp only [St.ask_len]); omega)).mono ?_
    rintro e w1 ⟨rfl, v1, k, g⟩
    replace H := hid k
    replace G := hid (G.out.trans g)
    clear k g
    go_wp2
    go_end0
    rw [HL.out]
    exact ⟨rfl, _, H.out, G.out⟩
set_option maxHeartbeats 1000000 in
set_option maxRecDepth 100000 in
theorem rcol6 (h : RAt b base s v w) (hs : s.Ok 15) (arg : Int) (a0 : 0 ≤ arg) (a1 : arg ≤ 99) : Calls Tryz.prog 31 #[.pointer (some ⟨b, 0, none⟩), .int .i64 d, .int .i64 6, .int .i64 arg] w (RRan b base (colE (d == 3) 6 arg s) v w) := by
  have H := hid h
  have G := hid (Steps.refl b v w)
  have HS := hid hs
  have HO : Hid (s.O.length ≤ 40) := hid hs.O
  clear h hs
  have hb := And.intro HS.out.h (And.intro HS.out.l HS.out.p)
  have hc : (d = 4 ∧ 64 < arg) ∨ (d = 4 ∧ arg ≤ 64) ∨ (d ≠ 4 ∧ 64 < arg) ∨ (d ≠ 4 ∧ arg ≤ 64) := by omega
  rcases hc with hc | hc | hc | hc
  · have f0 : (d == 4) = true := beq_true (by omega)
    have f6 : 64 < arg := by omega
    have HL : Hid ((colE (d == 3) 6 arg s) = (s.ask 16 (4 * 64) 0)) := hid (by show s.ask 16 (4 * (min arg 64)) 0 = _; congr 1; omega)
    clear hc hb
    go_enter Tryz.func31, Tryz.ntmps31
    go_wp2_with fail
    go_at_call 39
    refine (rop _ _ _ H.out (by have := HO.out; (try simp only [St.ask_len]); omega)).mono ?_
    rintro e w1 ⟨rfl, v1, k, g⟩
    replace H := hid k
    replace G := hid (G.out.trans g)
    clear k g
    go_wp2
    go_end0
    rw [HL.out]
    exact ⟨rfl, _, H.out, G.out⟩
  · have f0 : (d == 4) = true := beq_true (by omega)
    have f7 : ¬ 64 < arg := by omega
    have HL : Hid ((colE (d == 3) 6 arg s) = (s.ask 16 (4 * arg) 0)) := hid (by show s.ask 16 (4 * (min arg 64)) 0 = _; congr 1; omega)
    clear hc hb
    go_enter Tryz.func31, Tryz.ntmps31
    go_wp2_with fail
    go_at_call 39
    refine (rop _ _ _ H.out (by have := HO.out; (try simp only [St.ask_len]); omega)).mono ?_
    rintro e w1 ⟨rfl, v1, k, g⟩
    replace H := hid k
    replace G := hid (G.out.trans g)
    clear k g
    go_wp2
    go_end0
    rw [HL.out]
    exact ⟨rfl, _, H.out, G.out⟩
  · have f1 : (d == 4) = false := beq_false (by omega)
    have f8 : 64 < arg := by omega
    have HL : Hid ((colE (d == 3) 6 arg s) = (s.ask 16 (4 * 64) 0)) := hid (by show s.ask 16 (4 * (min arg 64)) 0 = _; congr 1; omega)
    clear hc hb
    go_enter Tryz.func31, Tryz.ntmps31
    go_wp2_with fail
    go_at_call 39
    refine (rop _ _ _ H.out (by have := HO.out; (try simp only [St.ask_len]); omega)).mono ?_
    rintro e w1 ⟨rfl, v1, k, g⟩
    replace H := hid k
    replace G := hid (G.out.trans g)
    clear k g
    go_wp2
    go_end0
    rw [HL.out]
    exact ⟨rfl, _, H.out, G.out⟩
  · have f1 : (d == 4) = false := beq_false (by omega)
    have f9 : ¬ 64 < arg := by omega
    have HL : Hid ((colE (d == 3) 6 arg s) = (s.ask 16 (4 * arg) 0)) := hid (by show s.ask 16 (4 * (min arg 64)) 0 = _; congr 1; omega)
    clear hc hb
    go_enter Tryz.func31, Tryz.ntmps31
    go_wp2_with fail
    go_at_call 39
    refine (rop _ _ _ H.out (by have := HO.out; (try simp only [St.ask_len]); omega)).mono ?_
    rintro e w1 ⟨rfl, v1, k, g⟩
    replace H := hid k
    replace G := hid (G.out.trans g)
    clear k g
    go_wp2
    go_end0
    rw [HL.out]
    exact ⟨rfl, _, H.out, G.out⟩
set_option maxHeartbeats 1000000 in
set_option maxRecDepth 100000 in
theorem rcol7f (h : RAt b base s v w) (hs : s.Ok 15) (arg : Int) (a0 : 0 ≤ arg) (a1 : arg ≤ 99) : Calls Tryz.prog 31 #[.pointer (some ⟨b, 0, none⟩), .int .i64 3, .int .i64 7, .int .i64 arg] w (RRan b base (colE (3 == 3) 7 arg s) v w) := by
  have H := hid h
  have G := hid (Steps.refl b v w)
  have HS := hid hs
  have HO : Hid (s.O.length ≤ 40) := hid hs.O
  clear h hs
  have hb := And.intro HS.out.h (And.intro HS.out.l HS.out.p)
  have hc : (15 < arg) ∨ (arg ≤ 15) := by omega
  rcases hc with hc | hc
  · have f10 : 15 < arg := by omega
    have cp : w.cell? ⟨b, 26, none⟩ = some (.int .i64 s.p) := H.out.cp
    have HL : Hid ((colE (3 == 3) 7 arg s) = (((s.put (240)).whole 1).ask 8 ((s.put (240)).whole 1).p 0)) := hid (by show ((s.put (16 * min arg 15)).whole 1).ask 8 ((s.put (16 * min arg 15)).whole 1).p 0 = _; rw [show 16 * min arg 15 = 240 by omega])
    clear hc hb
    go_enter Tryz.func31, Tryz.ntmps31
    go_wp2_with fail
    go_at_call 40
    refine (rput (240) H.out (by omega) (by omega)).mono ?_
    have HS2 := hid (St.Ok.put HS.out (p := 240) (by omega) (by omega))
    rintro e w1 ⟨rfl, v1, k, g⟩
    replace H := hid k
    replace G := hid (G.out.trans g)
    clear k g
    generalize hq1 : s.put (240) = s1 at *
    clear hq1 HS HO cp
    have HS := HS2
    clear HS2
    have HO : Hid (s1.O.length ≤ 40) := hid HS.out.O
    have cp : w1.cell? ⟨b, 26, none⟩ = some (.int .i64 s1.p) := H.out.cp
    go_wp2_with fail
    go_at_call 41
    refine (rwhole 1 (by decide) H.out HS.out).mono ?_
    have HS2 := hid (St.Ok.whole HS.out (k := 1) (by decide))
    rintro e w2 ⟨rfl, v2, k, g⟩
    replace H := hid k
    replace G := hid (G.out.trans g)
    clear k g
    generalize hq2 : s1.whole 1 = s2 at *
    clear hq2 HS HO cp
    have HS := HS2
    clear HS2
    have HO : Hid (s2.O.length ≤ 40) := hid HS.out.O
    have cp : w2.cell? ⟨b, 26, none⟩ = some (.int .i64 s2.p) := H.out.cp
    go_wp2_with fail
    go_at_call 39
    refine (rop _ _ _ H.out (by have := HO.out; (try simp only [St.ask_len]); omega)).mono ?_
    rintro e w3 ⟨rfl, v3, k, g⟩
    replace H := hid k
    replace G := hid (G.out.trans g)
    clear k g
    go_wp2
    go_end0
    rw [HL.out]
    exact ⟨rfl, _, H.out, G.out⟩
  · have f11 : ¬ 15 < arg := by omega
    have cp : w.cell? ⟨b, 26, none⟩ = some (.int .i64 s.p) := H.out.cp
    have HL : Hid ((colE (3 == 3) 7 arg s) = (((s.put (16 * arg)).whole 1).ask 8 ((s.put (16 * arg)).whole 1).p 0)) := hid (by show ((s.put (16 * min arg 15)).whole 1).ask 8 ((s.put (16 * min arg 15)).whole 1).p 0 = _; rw [show min arg 15 = arg by omega])
    clear hc hb
    go_enter Tryz.func31, Tryz.ntmps31
    go_wp2_with fail
    go_at_call 40
    refine (rput (16 * arg) H.out (by omega) (by omega)).mono ?_
    have HS2 := hid (St.Ok.put HS.out (p := 16 * arg) (by omega) (by omega))
    rintro e w1 ⟨rfl, v1, k, g⟩
    replace H := hid k
    replace G := hid (G.out.trans g)
    clear k g
    generalize hq1 : s.put (16 * arg) = s1 at *
    clear hq1 HS HO cp
    have HS := HS2
    clear HS2
    have HO : Hid (s1.O.length ≤ 40) := hid HS.out.O
    have cp : w1.cell? ⟨b, 26, none⟩ = some (.int .i64 s1.p) := H.out.cp
    go_wp2_with fail
    go_at_call 41
    refine (rwhole 1 (by decide) H.out HS.out).mono ?_
    have HS2 := hid (St.Ok.whole HS.out (k := 1) (by decide))
    rintro e w2 ⟨rfl, v2, k, g⟩
    replace H := hid k
    replace G := hid (G.out.trans g)
    clear k g
    generalize hq2 : s1.whole 1 = s2 at *
    clear hq2 HS HO cp
    have HS := HS2
    clear HS2
    have HO : Hid (s2.O.length ≤ 40) := hid HS.out.O
    have cp : w2.cell? ⟨b, 26, none⟩ = some (.int .i64 s2.p) := H.out.cp
    go_wp2_with fail
    go_at_call 39
    refine (rop _ _ _ H.out (by have := HO.out; (try simp only [St.ask_len]); omega)).mono ?_
    rintro e w3 ⟨rfl, v3, k, g⟩
    replace H := hid k
    replace G := hid (G.out.trans g)
    clear k g
    go_wp2
    go_end0
    rw [HL.out]
    exact ⟨rfl, _, H.out, G.out⟩
set_option maxHeartbeats 1000000 in
set_option maxRecDepth 100000 in
theorem rcol7n_0 (h : RAt b base s v w) (hs : s.Ok 15) : Calls Tryz.prog 31 #[.pointer (some ⟨b, 0, none⟩), .int .i64 4, .int .i64 7, .int .i64 0] w (RRan b base (colE (4 == 3) 7 0 s) v w) := by
  have H := hid h
  have G := hid (Steps.refl b v w)
  have HS := hid hs
  have HO : Hid (s.O.length ≤ 40) := hid hs.O
  have HU : Hid (colE (4 == 3) 7 0 s = ((s.put (0)).whole 2).ask 8 ((s.put (0)).whole 2).p 0) := hid (rfl)
  clear h hs
  have cp : w.cell? ⟨b, 26, none⟩ = some (.int .i64 s.p) := H.out.cp
  go_enter Tryz.func31, Tryz.ntmps31
  go_wp2_with fail
  go_at_call 40
  refine (rput (0) (H.out.later (below1 _ _)) (by omega) (by omega)).mono ?_
  have HS2 := hid (St.Ok.put HS.out (p := 0) (by omega) (by omega))
  rintro e w1 ⟨rfl, v1, k, g⟩
  replace H := hid k
  replace G := hid (G.out.trans ((Steps.below b _ (below1 _ _)).trans g))
  clear k g
  generalize hq1 : s.put (0) = s1 at *
  clear hq1 HS HO cp
  have HS := HS2
  clear HS2
  have HO : Hid (s1.O.length ≤ 40) := hid HS.out.O
  have cp : w1.cell? ⟨b, 26, none⟩ = some (.int .i64 s1.p) := H.out.cp
  go_wp2_with fail
  go_at_call 41
  refine (rwhole 2 (by decide) H.out HS.out).mono ?_
  have HS2 := hid (St.Ok.whole HS.out (k := 2) (by decide))
  rintro e w2 ⟨rfl, v2, k, g⟩
  replace H := hid k
  replace G := hid (G.out.trans g)
  clear k g
  generalize hq2 : s1.whole 2 = s2 at *
  clear hq2 HS HO cp
  have HS := HS2
  clear HS2
  have HO : Hid (s2.O.length ≤ 40) := hid HS.out.O
  have cp : w2.cell? ⟨b, 26, none⟩ = some (.int .i64 s2.p) := H.out.cp
  go_wp2_with fail
  go_at_call 39
  refine (rop _ _ _ H.out (by have := HO.out; (try simp only [St.ask_len]); omega)).mono ?_
  rintro e w3 ⟨rfl, v3, k, g⟩
  replace H := hid k
  replace G := hid (G.out.trans g)
  clear k g
  go_wp2
  go_end0
  rw [HU.out]
  exact ⟨rfl, _, H.out, G.out⟩
set_option maxHeartbeats 1000000 in
set_option maxRecDepth 100000 in
theorem rcol7n_1 (h : RAt b base s v w) (hs : s.Ok 15) : Calls Tryz.prog 31 #[.pointer (some ⟨b, 0, none⟩), .int .i64 4, .int .i64 7, .int .i64 1] w (RRan b base (colE (4 == 3) 7 1 s) v w) := by
  have H := hid h
  have G := hid (Steps.refl b v w)
  have HS := hid hs
  have HO : Hid (s.O.length ≤ 40) := hid hs.O
  have HU : Hid (colE (4 == 3) 7 1 s = ((s.put (1)).whole 2).ask 8 ((s.put (1)).whole 2).p 0) := hid (rfl)
  clear h hs
  have cp : w.cell? ⟨b, 26, none⟩ = some (.int .i64 s.p) := H.out.cp
  go_enter Tryz.func31, Tryz.ntmps31
  go_wp2_with fail
  go_at_call 40
  refine (rput (1) (H.out.later (below1 _ _)) (by omega) (by omega)).mono ?_
  have HS2 := hid (St.Ok.put HS.out (p := 1) (by omega) (by omega))
  rintro e w1 ⟨rfl, v1, k, g⟩
  replace H := hid k
  replace G := hid (G.out.trans ((Steps.below b _ (below1 _ _)).trans g))
  clear k g
  generalize hq1 : s.put (1) = s1 at *
  clear hq1 HS HO cp
  have HS := HS2
  clear HS2
  have HO : Hid (s1.O.length ≤ 40) := hid HS.out.O
  have cp : w1.cell? ⟨b, 26, none⟩ = some (.int .i64 s1.p) := H.out.cp
  go_wp2_with fail
  go_at_call 41
  refine (rwhole 2 (by decide) H.out HS.out).mono ?_
  have HS2 := hid (St.Ok.whole HS.out (k := 2) (by decide))
  rintro e w2 ⟨rfl, v2, k, g⟩
  replace H := hid k
  replace G := hid (G.out.trans g)
  clear k g
  generalize hq2 : s1.whole 2 = s2 at *
  clear hq2 HS HO cp
  have HS := HS2
  clear HS2
  have HO : Hid (s2.O.length ≤ 40) := hid HS.out.O
  have cp : w2.cell? ⟨b, 26, none⟩ = some (.int .i64 s2.p) := H.out.cp
  go_wp2_with fail
  go_at_call 39
  refine (rop _ _ _ H.out (by have := HO.out; (try simp only [St.ask_len]); omega)).mono ?_
  rintro e w3 ⟨rfl, v3, k, g⟩
  replace H := hid k
  replace G := hid (G.out.trans g)
  clear k g
  go_wp2
  go_end0
  rw [HU.out]
  exact ⟨rfl, _, H.out, G.out⟩
set_option maxHeartbeats 1000000 in
set_option maxRecDepth 100000 in
theorem rcol7n_2 (h : RAt b base s v w) (hs : s.Ok 15) : Calls Tryz.prog 31 #[.pointer (some ⟨b, 0, none⟩), .int .i64 4, .int .i64 7, .int .i64 2] w (RRan b base (colE (4 == 3) 7 2 s) v w) := by
  have H := hid h
  have G := hid (Steps.refl b v w)
  have HS := hid hs
  have HO : Hid (s.O.length ≤ 40) := hid hs.O
  have HU : Hid (colE (4 == 3) 7 2 s = ((s.put (4)).whole 2).ask 8 ((s.put (4)).whole 2).p 0) := hid (rfl)
  clear h hs
  have cp : w.cell? ⟨b, 26, none⟩ = some (.int .i64 s.p) := H.out.cp
  go_enter Tryz.func31, Tryz.ntmps31
  go_wp2_with fail
  go_at_call 40
  refine (rput (4) (H.out.later (below1 _ _)) (by omega) (by omega)).mono ?_
  have HS2 := hid (St.Ok.put HS.out (p := 4) (by omega) (by omega))
  rintro e w1 ⟨rfl, v1, k, g⟩
  replace H := hid k
  replace G := hid (G.out.trans ((Steps.below b _ (below1 _ _)).trans g))
  clear k g
  generalize hq1 : s.put (4) = s1 at *
  clear hq1 HS HO cp
  have HS := HS2
  clear HS2
  have HO : Hid (s1.O.length ≤ 40) := hid HS.out.O
  have cp : w1.cell? ⟨b, 26, none⟩ = some (.int .i64 s1.p) := H.out.cp
  go_wp2_with fail
  go_at_call 41
  refine (rwhole 2 (by decide) H.out HS.out).mono ?_
  have HS2 := hid (St.Ok.whole HS.out (k := 2) (by decide))
  rintro e w2 ⟨rfl, v2, k, g⟩
  replace H := hid k
  replace G := hid (G.out.trans g)
  clear k g
  generalize hq2 : s1.whole 2 = s2 at *
  clear hq2 HS HO cp
  have HS := HS2
  clear HS2
  have HO : Hid (s2.O.length ≤ 40) := hid HS.out.O
  have cp : w2.cell? ⟨b, 26, none⟩ = some (.int .i64 s2.p) := H.out.cp
  go_wp2_with fail
  go_at_call 39
  refine (rop _ _ _ H.out (by have := HO.out; (try simp only [St.ask_len]); omega)).mono ?_
  rintro e w3 ⟨rfl, v3, k, g⟩
  replace H := hid k
  replace G := hid (G.out.trans g)
  clear k g
  go_wp2
  go_end0
  rw [HU.out]
  exact ⟨rfl, _, H.out, G.out⟩
set_option maxHeartbeats 1000000 in
set_option maxRecDepth 100000 in
theorem rcol7n_3 (h : RAt b base s v w) (hs : s.Ok 15) : Calls Tryz.prog 31 #[.pointer (some ⟨b, 0, none⟩), .int .i64 4, .int .i64 7, .int .i64 3] w (RRan b base (colE (4 == 3) 7 3 s) v w) := by
  have H := hid h
  have G := hid (Steps.refl b v w)
  have HS := hid hs
  have HO : Hid (s.O.length ≤ 40) := hid hs.O
  have HU : Hid (colE (4 == 3) 7 3 s = ((s.put (8)).whole 2).ask 8 ((s.put (8)).whole 2).p 0) := hid (rfl)
  clear h hs
  have cp : w.cell? ⟨b, 26, none⟩ = some (.int .i64 s.p) := H.out.cp
  go_enter Tryz.func31, Tryz.ntmps31
  go_wp2_with fail
  go_at_call 40
  refine (rput (8) (H.out.later (below1 _ _)) (by omega) (by omega)).mono ?_
  have HS2 := hid (St.Ok.put HS.out (p := 8) (by omega) (by omega))
  rintro e w1 ⟨rfl, v1, k, g⟩
  replace H := hid k
  replace G := hid (G.out.trans ((Steps.below b _ (below1 _ _)).trans g))
  clear k g
  generalize hq1 : s.put (8) = s1 at *
  clear hq1 HS HO cp
  have HS := HS2
  clear HS2
  have HO : Hid (s1.O.length ≤ 40) := hid HS.out.O
  have cp : w1.cell? ⟨b, 26, none⟩ = some (.int .i64 s1.p) := H.out.cp
  go_wp2_with fail
  go_at_call 41
  refine (rwhole 2 (by decide) H.out HS.out).mono ?_
  have HS2 := hid (St.Ok.whole HS.out (k := 2) (by decide))
  rintro e w2 ⟨rfl, v2, k, g⟩
  replace H := hid k
  replace G := hid (G.out.trans g)
  clear k g
  generalize hq2 : s1.whole 2 = s2 at *
  clear hq2 HS HO cp
  have HS := HS2
  clear HS2
  have HO : Hid (s2.O.length ≤ 40) := hid HS.out.O
  have cp : w2.cell? ⟨b, 26, none⟩ = some (.int .i64 s2.p) := H.out.cp
  go_wp2_with fail
  go_at_call 39
  refine (rop _ _ _ H.out (by have := HO.out; (try simp only [St.ask_len]); omega)).mono ?_
  rintro e w3 ⟨rfl, v3, k, g⟩
  replace H := hid k
  replace G := hid (G.out.trans g)
  clear k g
  go_wp2
  go_end0
  rw [HU.out]
  exact ⟨rfl, _, H.out, G.out⟩
set_option maxHeartbeats 1000000 in
set_option maxRecDepth 100000 in
theorem rcol7n_4 (h : RAt b base s v w) (hs : s.Ok 15) : Calls Tryz.prog 31 #[.pointer (some ⟨b, 0, none⟩), .int .i64 4, .int .i64 7, .int .i64 4] w (RRan b base (colE (4 == 3) 7 4 s) v w) := by
  have H := hid h
  have G := hid (Steps.refl b v w)
  have HS := hid hs
  have HO : Hid (s.O.length ≤ 40) := hid hs.O
  have HU : Hid (colE (4 == 3) 7 4 s = ((s.put (16)).whole 2).ask 8 ((s.put (16)).whole 2).p 0) := hid (rfl)
  clear h hs
  have cp : w.cell? ⟨b, 26, none⟩ = some (.int .i64 s.p) := H.out.cp
  go_enter Tryz.func31, Tryz.ntmps31
  go_wp2_with fail
  go_at_call 40
  refine (rput (16) (H.out.later (below1 _ _)) (by omega) (by omega)).mono ?_
  have HS2 := hid (St.Ok.put HS.out (p := 16) (by omega) (by omega))
  rintro e w1 ⟨rfl, v1, k, g⟩
  replace H := hid k
  replace G := hid (G.out.trans ((Steps.below b _ (below1 _ _)).trans g))
  clear k g
  generalize hq1 : s.put (16) = s1 at *
  clear hq1 HS HO cp
  have HS := HS2
  clear HS2
  have HO : Hid (s1.O.length ≤ 40) := hid HS.out.O
  have cp : w1.cell? ⟨b, 26, none⟩ = some (.int .i64 s1.p) := H.out.cp
  go_wp2_with fail
  go_at_call 41
  refine (rwhole 2 (by decide) H.out HS.out).mono ?_
  have HS2 := hid (St.Ok.whole HS.out (k := 2) (by decide))
  rintro e w2 ⟨rfl, v2, k, g⟩
  replace H := hid k
  replace G := hid (G.out.trans g)
  clear k g
  generalize hq2 : s1.whole 2 = s2 at *
  clear hq2 HS HO cp
  have HS := HS2
  clear HS2
  have HO : Hid (s2.O.length ≤ 40) := hid HS.out.O
  have cp : w2.cell? ⟨b, 26, none⟩ = some (.int .i64 s2.p) := H.out.cp
  go_wp2_with fail
  go_at_call 39
  refine (rop _ _ _ H.out (by have := HO.out; (try simp only [St.ask_len]); omega)).mono ?_
  rintro e w3 ⟨rfl, v3, k, g⟩
  replace H := hid k
  replace G := hid (G.out.trans g)
  clear k g
  go_wp2
  go_end0
  rw [HU.out]
  exact ⟨rfl, _, H.out, G.out⟩
set_option maxHeartbeats 1000000 in
set_option maxRecDepth 100000 in
theorem rcol7n_5 (h : RAt b base s v w) (hs : s.Ok 15) : Calls Tryz.prog 31 #[.pointer (some ⟨b, 0, none⟩), .int .i64 4, .int .i64 7, .int .i64 5] w (RRan b base (colE (4 == 3) 7 5 s) v w) := by
  have H := hid h
  have G := hid (Steps.refl b v w)
  have HS := hid hs
  have HO : Hid (s.O.length ≤ 40) := hid hs.O
  have HU : Hid (colE (4 == 3) 7 5 s = ((s.put (32)).whole 2).ask 8 ((s.put (32)).whole 2).p 0) := hid (rfl)
  clear h hs
  have cp : w.cell? ⟨b, 26, none⟩ = some (.int .i64 s.p) := H.out.cp
  go_enter Tryz.func31, Tryz.ntmps31
  go_wp2_with fail
  go_at_call 40
  refine (rput (32) (H.out.later (below1 _ _)) (by omega) (by omega)).mono ?_
  have HS2 := hid (St.Ok.put HS.out (p := 32) (by omega) (by omega))
  rintro e w1 ⟨rfl, v1, k, g⟩
  replace H := hid k
  replace G := hid (G.out.trans ((Steps.below b _ (below1 _ _)).trans g))
  clear k g
  generalize hq1 : s.put (32) = s1 at *
  clear hq1 HS HO cp
  have HS := HS2
  clear HS2
  have HO : Hid (s1.O.length ≤ 40) := hid HS.out.O
  have cp : w1.cell? ⟨b, 26, none⟩ = some (.int .i64 s1.p) := H.out.cp
  go_wp2_with fail
  go_at_call 41
  refine (rwhole 2 (by decide) H.out HS.out).mono ?_
  have HS2 := hid (St.Ok.whole HS.out (k := 2) (by decide))
  rintro e w2 ⟨rfl, v2, k, g⟩
  replace H := hid k
  replace G := hid (G.out.trans g)
  clear k g
  generalize hq2 : s1.whole 2 = s2 at *
  clear hq2 HS HO cp
  have HS := HS2
  clear HS2
  have HO : Hid (s2.O.length ≤ 40) := hid HS.out.O
  have cp : w2.cell? ⟨b, 26, none⟩ = some (.int .i64 s2.p) := H.out.cp
  go_wp2_with fail
  go_at_call 39
  refine (rop _ _ _ H.out (by have := HO.out; (try simp only [St.ask_len]); omega)).mono ?_
  rintro e w3 ⟨rfl, v3, k, g⟩
  replace H := hid k
  replace G := hid (G.out.trans g)
  clear k g
  go_wp2
  go_end0
  rw [HU.out]
  exact ⟨rfl, _, H.out, G.out⟩
set_option maxHeartbeats 1000000 in
set_option maxRecDepth 100000 in
theorem rcol7n_6 (h : RAt b base s v w) (hs : s.Ok 15) : Calls Tryz.prog 31 #[.pointer (some ⟨b, 0, none⟩), .int .i64 4, .int .i64 7, .int .i64 6] w (RRan b base (colE (4 == 3) 7 6 s) v w) := by
  have H := hid h
  have G := hid (Steps.refl b v w)
  have HS := hid hs
  have HO : Hid (s.O.length ≤ 40) := hid hs.O
  have HU : Hid (colE (4 == 3) 7 6 s = ((s.put (64)).whole 2).ask 8 ((s.put (64)).whole 2).p 0) := hid (rfl)
  clear h hs
  have cp : w.cell? ⟨b, 26, none⟩ = some (.int .i64 s.p) := H.out.cp
  go_enter Tryz.func31, Tryz.ntmps31
  go_wp2_with fail
  go_at_call 40
  refine (rput (64) (H.out.later (below1 _ _)) (by omega) (by omega)).mono ?_
  have HS2 := hid (St.Ok.put HS.out (p := 64) (by omega) (by omega))
  rintro e w1 ⟨rfl, v1, k, g⟩
  replace H := hid k
  replace G := hid (G.out.trans ((Steps.below b _ (below1 _ _)).trans g))
  clear k g
  generalize hq1 : s.put (64) = s1 at *
  clear hq1 HS HO cp
  have HS := HS2
  clear HS2
  have HO : Hid (s1.O.length ≤ 40) := hid HS.out.O
  have cp : w1.cell? ⟨b, 26, none⟩ = some (.int .i64 s1.p) := H.out.cp
  go_wp2_with fail
  go_at_call 41
  refine (rwhole 2 (by decide) H.out HS.out).mono ?_
  have HS2 := hid (St.Ok.whole HS.out (k := 2) (by decide))
  rintro e w2 ⟨rfl, v2, k, g⟩
  replace H := hid k
  replace G := hid (G.out.trans g)
  clear k g
  generalize hq2 : s1.whole 2 = s2 at *
  clear hq2 HS HO cp
  have HS := HS2
  clear HS2
  have HO : Hid (s2.O.length ≤ 40) := hid HS.out.O
  have cp : w2.cell? ⟨b, 26, none⟩ = some (.int .i64 s2.p) := H.out.cp
  go_wp2_with fail
  go_at_call 39
  refine (rop _ _ _ H.out (by have := HO.out; (try simp only [St.ask_len]); omega)).mono ?_
  rintro e w3 ⟨rfl, v3, k, g⟩
  replace H := hid k
  replace G := hid (G.out.trans g)
  clear k g
  go_wp2
  go_end0
  rw [HU.out]
  exact ⟨rfl, _, H.out, G.out⟩
set_option maxHeartbeats 1000000 in
set_option maxRecDepth 100000 in
theorem rcol7n_7 (h : RAt b base s v w) (hs : s.Ok 15) : Calls Tryz.prog 31 #[.pointer (some ⟨b, 0, none⟩), .int .i64 4, .int .i64 7, .int .i64 7] w (RRan b base (colE (4 == 3) 7 7 s) v w) := by
  have H := hid h
  have G := hid (Steps.refl b v w)
  have HS := hid hs
  have HO : Hid (s.O.length ≤ 40) := hid hs.O
  have HU : Hid (colE (4 == 3) 7 7 s = ((s.put (96)).whole 2).ask 8 ((s.put (96)).whole 2).p 0) := hid (rfl)
  clear h hs
  have cp : w.cell? ⟨b, 26, none⟩ = some (.int .i64 s.p) := H.out.cp
  go_enter Tryz.func31, Tryz.ntmps31
  go_wp2_with fail
  go_at_call 40
  refine (rput (96) (H.out.later (below1 _ _)) (by omega) (by omega)).mono ?_
  have HS2 := hid (St.Ok.put HS.out (p := 96) (by omega) (by omega))
  rintro e w1 ⟨rfl, v1, k, g⟩
  replace H := hid k
  replace G := hid (G.out.trans ((Steps.below b _ (below1 _ _)).trans g))
  clear k g
  generalize hq1 : s.put (96) = s1 at *
  clear hq1 HS HO cp
  have HS := HS2
  clear HS2
  have HO : Hid (s1.O.length ≤ 40) := hid HS.out.O
  have cp : w1.cell? ⟨b, 26, none⟩ = some (.int .i64 s1.p) := H.out.cp
  go_wp2_with fail
  go_at_call 41
  refine (rwhole 2 (by decide) H.out HS.out).mono ?_
  have HS2 := hid (St.Ok.whole HS.out (k := 2) (by decide))
  rintro e w2 ⟨rfl, v2, k, g⟩
  replace H := hid k
  replace G := hid (G.out.trans g)
  clear k g
  generalize hq2 : s1.whole 2 = s2 at *
  clear hq2 HS HO cp
  have HS := HS2
  clear HS2
  have HO : Hid (s2.O.length ≤ 40) := hid HS.out.O
  have cp : w2.cell? ⟨b, 26, none⟩ = some (.int .i64 s2.p) := H.out.cp
  go_wp2_with fail
  go_at_call 39
  refine (rop _ _ _ H.out (by have := HO.out; (try simp only [St.ask_len]); omega)).mono ?_
  rintro e w3 ⟨rfl, v3, k, g⟩
  replace H := hid k
  replace G := hid (G.out.trans g)
  clear k g
  go_wp2
  go_end0
  rw [HU.out]
  exact ⟨rfl, _, H.out, G.out⟩
set_option maxHeartbeats 1000000 in
set_option maxRecDepth 100000 in
theorem rcol7n_8 (h : RAt b base s v w) (hs : s.Ok 15) : Calls Tryz.prog 31 #[.pointer (some ⟨b, 0, none⟩), .int .i64 4, .int .i64 7, .int .i64 8] w (RRan b base (colE (4 == 3) 7 8 s) v w) := by
  have H := hid h
  have G := hid (Steps.refl b v w)
  have HS := hid hs
  have HO : Hid (s.O.length ≤ 40) := hid hs.O
  have HU : Hid (colE (4 == 3) 7 8 s = ((s.put (128)).whole 2).ask 8 ((s.put (128)).whole 2).p 0) := hid (rfl)
  clear h hs
  have cp : w.cell? ⟨b, 26, none⟩ = some (.int .i64 s.p) := H.out.cp
  go_enter Tryz.func31, Tryz.ntmps31
  go_wp2_with fail
  go_at_call 40
  refine (rput (128) (H.out.later (below1 _ _)) (by omega) (by omega)).mono ?_
  have HS2 := hid (St.Ok.put HS.out (p := 128) (by omega) (by omega))
  rintro e w1 ⟨rfl, v1, k, g⟩
  replace H := hid k
  replace G := hid (G.out.trans ((Steps.below b _ (below1 _ _)).trans g))
  clear k g
  generalize hq1 : s.put (128) = s1 at *
  clear hq1 HS HO cp
  have HS := HS2
  clear HS2
  have HO : Hid (s1.O.length ≤ 40) := hid HS.out.O
  have cp : w1.cell? ⟨b, 26, none⟩ = some (.int .i64 s1.p) := H.out.cp
  go_wp2_with fail
  go_at_call 41
  refine (rwhole 2 (by decide) H.out HS.out).mono ?_
  have HS2 := hid (St.Ok.whole HS.out (k := 2) (by decide))
  rintro e w2 ⟨rfl, v2, k, g⟩
  replace H := hid k
  replace G := hid (G.out.trans g)
  clear k g
  generalize hq2 : s1.whole 2 = s2 at *
  clear hq2 HS HO cp
  have HS := HS2
  clear HS2
  have HO : Hid (s2.O.length ≤ 40) := hid HS.out.O
  have cp : w2.cell? ⟨b, 26, none⟩ = some (.int .i64 s2.p) := H.out.cp
  go_wp2_with fail
  go_at_call 39
  refine (rop _ _ _ H.out (by have := HO.out; (try simp only [St.ask_len]); omega)).mono ?_
  rintro e w3 ⟨rfl, v3, k, g⟩
  replace H := hid k
  replace G := hid (G.out.trans g)
  clear k g
  go_wp2
  go_end0
  rw [HU.out]
  exact ⟨rfl, _, H.out, G.out⟩
set_option maxHeartbeats 1000000 in
set_option maxRecDepth 100000 in
theorem rcol7n_9 (h : RAt b base s v w) (hs : s.Ok 15) : Calls Tryz.prog 31 #[.pointer (some ⟨b, 0, none⟩), .int .i64 4, .int .i64 7, .int .i64 9] w (RRan b base (colE (4 == 3) 7 9 s) v w) := by
  have H := hid h
  have G := hid (Steps.refl b v w)
  have HS := hid hs
  have HO : Hid (s.O.length ≤ 40) := hid hs.O
  have HU : Hid (colE (4 == 3) 7 9 s = ((s.put (255)).whole 2).ask 8 ((s.put (255)).whole 2).p 0) := hid (rfl)
  clear h hs
  have cp : w.cell? ⟨b, 26, none⟩ = some (.int .i64 s.p) := H.out.cp
  go_enter Tryz.func31, Tryz.ntmps31
  go_wp2_with fail
  go_at_call 40
  refine (rput (255) (H.out.later (below1 _ _)) (by omega) (by omega)).mono ?_
  have HS2 := hid (St.Ok.put HS.out (p := 255) (by omega) (by omega))
  rintro e w1 ⟨rfl, v1, k, g⟩
  replace H := hid k
  replace G := hid (G.out.trans ((Steps.below b _ (below1 _ _)).trans g))
  clear k g
  generalize hq1 : s.put (255) = s1 at *
  clear hq1 HS HO cp
  have HS := HS2
  clear HS2
  have HO : Hid (s1.O.length ≤ 40) := hid HS.out.O
  have cp : w1.cell? ⟨b, 26, none⟩ = some (.int .i64 s1.p) := H.out.cp
  go_wp2_with fail
  go_at_call 41
  refine (rwhole 2 (by decide) H.out HS.out).mono ?_
  have HS2 := hid (St.Ok.whole HS.out (k := 2) (by decide))
  rintro e w2 ⟨rfl, v2, k, g⟩
  replace H := hid k
  replace G := hid (G.out.trans g)
  clear k g
  generalize hq2 : s1.whole 2 = s2 at *
  clear hq2 HS HO cp
  have HS := HS2
  clear HS2
  have HO : Hid (s2.O.length ≤ 40) := hid HS.out.O
  have cp : w2.cell? ⟨b, 26, none⟩ = some (.int .i64 s2.p) := H.out.cp
  go_wp2_with fail
  go_at_call 39
  refine (rop _ _ _ H.out (by have := HO.out; (try simp only [St.ask_len]); omega)).mono ?_
  rintro e w3 ⟨rfl, v3, k, g⟩
  replace H := hid k
  replace G := hid (G.out.trans g)
  clear k g
  go_wp2
  go_end0
  rw [HU.out]
  exact ⟨rfl, _, H.out, G.out⟩
set_option maxHeartbeats 1000000 in
set_option maxRecDepth 100000 in
theorem rcol7n_x (h : RAt b base s v w) (hs : s.Ok 15) (arg : Int) (a9 : 9 < arg) (a1 : arg ≤ 99) : Calls Tryz.prog 31 #[.pointer (some ⟨b, 0, none⟩), .int .i64 4, .int .i64 7, .int .i64 arg] w (RRan b base (colE (4 == 3) 7 arg s) v w) := by
  have H := hid h
  have G := hid (Steps.refl b v w)
  have HS := hid hs
  have HO : Hid (s.O.length ≤ 40) := hid hs.O
  clear h hs
  have hb := And.intro HS.out.h (And.intro HS.out.l HS.out.p)
  have hc : (15 < arg) ∨ (arg ≤ 15) := by omega
  rcases hc with hc | hc
  · have f12 : 15 < arg := by omega
    have cp : w.cell? ⟨b, 26, none⟩ = some (.int .i64 s.p) := H.out.cp
    have HL : Hid ((colE (4 == 3) 7 arg s) = (((s.put (255)).whole 2).ask 8 ((s.put (255)).whole 2).p 0)) := hid (by show ((s.put (colT (min arg 9))).whole 2).ask 8 ((s.put (colT (min arg 9))).whole 2).p 0 = _; rw [show min arg 9 = 9 by omega]; rfl)
    clear hc hb
    go_enter Tryz.func31, Tryz.ntmps31
    go_wp2_with fail
    go_at_call 40
    refine (rput (255) (H.out.later (below1 _ _)) (by omega) (by omega)).mono ?_
    have HS2 := hid (St.Ok.put HS.out (p := 255) (by omega) (by omega))
    rintro e w1 ⟨rfl, v1, k, g⟩
    replace H := hid k
    replace G := hid (G.out.trans ((Steps.below b _ (below1 _ _)).trans g))
    clear k g
    generalize hq1 : s.put (255) = s1 at *
    clear hq1 HS HO cp
    have HS := HS2
    clear HS2
    have HO : Hid (s1.O.length ≤ 40) := hid HS.out.O
    have cp : w1.cell? ⟨b, 26, none⟩ = some (.int .i64 s1.p) := H.out.cp
    go_wp2_with fail
    go_at_call 41
    refine (rwhole 2 (by decide) H.out HS.out).mono ?_
    have HS2 := hid (St.Ok.whole HS.out (k := 2) (by decide))
    rintro e w2 ⟨rfl, v2, k, g⟩
    replace H := hid k
    replace G := hid (G.out.trans g)
    clear k g
    generalize hq2 : s1.whole 2 = s2 at *
    clear hq2 HS HO cp
    have HS := HS2
    clear HS2
    have HO : Hid (s2.O.length ≤ 40) := hid HS.out.O
    have cp : w2.cell? ⟨b, 26, none⟩ = some (.int .i64 s2.p) := H.out.cp
    go_wp2_with fail
    go_at_call 39
    refine (rop _ _ _ H.out (by have := HO.out; (try simp only [St.ask_len]); omega)).mono ?_
    rintro e w3 ⟨rfl, v3, k, g⟩
    replace H := hid k
    replace G := hid (G.out.trans g)
    clear k g
    go_wp2
    go_end0
    rw [HL.out]
    exact ⟨rfl, _, H.out, G.out⟩
  · have f13 : ¬ 15 < arg := by omega
    have cp : w.cell? ⟨b, 26, none⟩ = some (.int .i64 s.p) := H.out.cp
    have HL : Hid ((colE (4 == 3) 7 arg s) = (((s.put (255)).whole 2).ask 8 ((s.put (255)).whole 2).p 0)) := hid (by show ((s.put (colT (min arg 9))).whole 2).ask 8 ((s.put (colT (min arg 9))).whole 2).p 0 = _; rw [show min arg 9 = 9 by omega]; rfl)
    clear hc hb
    go_enter Tryz.func31, Tryz.ntmps31
    go_wp2_with fail
    go_at_call 40
    refine (rput (255) (H.out.later (below1 _ _)) (by omega) (by omega)).mono ?_
    have HS2 := hid (St.Ok.put HS.out (p := 255) (by omega) (by omega))
    rintro e w1 ⟨rfl, v1, k, g⟩
    replace H := hid k
    replace G := hid (G.out.trans ((Steps.below b _ (below1 _ _)).trans g))
    clear k g
    generalize hq1 : s.put (255) = s1 at *
    clear hq1 HS HO cp
    have HS := HS2
    clear HS2
    have HO : Hid (s1.O.length ≤ 40) := hid HS.out.O
    have cp : w1.cell? ⟨b, 26, none⟩ = some (.int .i64 s1.p) := H.out.cp
    go_wp2_with fail
    go_at_call 41
    refine (rwhole 2 (by decide) H.out HS.out).mono ?_
    have HS2 := hid (St.Ok.whole HS.out (k := 2) (by decide))
    rintro e w2 ⟨rfl, v2, k, g⟩
    replace H := hid k
    replace G := hid (G.out.trans g)
    clear k g
    generalize hq2 : s1.whole 2 = s2 at *
    clear hq2 HS HO cp
    have HS := HS2
    clear HS2
    have HO : Hid (s2.O.length ≤ 40) := hid HS.out.O
    have cp : w2.cell? ⟨b, 26, none⟩ = some (.int .i64 s2.p) := H.out.cp
    go_wp2_with fail
    go_at_call 39
    refine (rop _ _ _ H.out (by have := HO.out; (try simp only [St.ask_len]); omega)).mono ?_
    rintro e w3 ⟨rfl, v3, k, g⟩
    replace H := hid k
    replace G := hid (G.out.trans g)
    clear k g
    go_wp2
    go_end0
    rw [HL.out]
    exact ⟨rfl, _, H.out, G.out⟩
theorem rcol7n (h : RAt b base s v w) (hs : s.Ok 15) (arg : Int) (a0 : 0 ≤ arg) (a1 : arg ≤ 99) : Calls Tryz.prog 31 #[.pointer (some ⟨b, 0, none⟩), .int .i64 4, .int .i64 7, .int .i64 arg] w (RRan b base (colE (4 == 3) 7 arg s) v w) := by
  by_cases h9 : 9 < arg
  · exact rcol7n_x h hs arg h9 a1
  have hc : arg = 0 ∨ arg = 1 ∨ arg = 2 ∨ arg = 3 ∨ arg = 4 ∨ arg = 5 ∨ arg = 6 ∨ arg = 7 ∨ arg = 8 ∨ arg = 9 := by omega
  rcases hc with rfl | rfl | rfl | rfl | rfl | rfl | rfl | rfl | rfl | rfl
  · exact rcol7n_0 h hs
  · exact rcol7n_1 h hs
  · exact rcol7n_2 h hs
  · exact rcol7n_3 h hs
  · exact rcol7n_4 h hs
  · exact rcol7n_5 h hs
  · exact rcol7n_6 h hs
  · exact rcol7n_7 h hs
  · exact rcol7n_8 h hs
  · exact rcol7n_9 h hs
set_option maxHeartbeats 1000000 in
set_option maxRecDepth 100000 in
theorem rcol8f (h : RAt b base s v w) (hs : s.Ok 15) (arg : Int) (a0 : 0 ≤ arg) (a1 : arg ≤ 99) : Calls Tryz.prog 31 #[.pointer (some ⟨b, 0, none⟩), .int .i64 3, .int .i64 8, .int .i64 arg] w (RRan b base (colE (3 == 3) 8 arg s) v w) := by
  have H := hid h
  have G := hid (Steps.refl b v w)
  have HS := hid hs
  have HO : Hid (s.O.length ≤ 40) := hid hs.O
  clear h hs
  have hb := And.intro HS.out.h (And.intro HS.out.l HS.out.p)
  have hc : (15 < arg) ∨ (arg ≤ 15) := by omega
  rcases hc with hc | hc
  · have f14 : 15 < arg := by omega
    have cp : w.cell? ⟨b, 26, none⟩ = some (.int .i64 s.p) := H.out.cp
    have ch : w.cell? ⟨b, 27, none⟩ = some (.int .i64 s.h) := H.out.ch
    have cl : w.cell? ⟨b, 28, none⟩ = some (.int .i64 s.l) := H.out.cl
    have HL : Hid ((colE (3 == 3) 8 arg s) = (((s.put (15)).halves 2).ask 9 ((s.put (15)).halves 2).h ((s.put (15)).halves 2).l)) := hid (by show ((s.put (min arg 15)).halves 2).ask 9 ((s.put (min arg 15)).halves 2).h ((s.put (min arg 15)).halves 2).l = _; rw [show min arg 15 = 15 by omega])
    clear hc hb
    go_enter Tryz.func31, Tryz.ntmps31
    go_wp2_with fail
    go_at_call 40
    refine (rput (15) H.out (by omega) (by omega)).mono ?_
    have HS2 := hid (St.Ok.put HS.out (p := 15) (by omega) (by omega))
    rintro e w1 ⟨rfl, v1, k, g⟩
    replace H := hid k
    replace G := hid (G.out.trans g)
    clear k g
    generalize hq1 : s.put (15) = s1 at *
    clear hq1 HS HO cp ch cl
    have HS := HS2
    clear HS2
    have HO : Hid (s1.O.length ≤ 40) := hid HS.out.O
    have cp : w1.cell? ⟨b, 26, none⟩ = some (.int .i64 s1.p) := H.out.cp
    have ch : w1.cell? ⟨b, 27, none⟩ = some (.int .i64 s1.h) := H.out.ch
    have cl : w1.cell? ⟨b, 28, none⟩ = some (.int .i64 s1.l) := H.out.cl
    go_wp2_with fail
    go_at_call 42
    refine (rhalves 2 (by decide) H.out HS.out).mono ?_
    have HS2 := hid (St.Ok.halves HS.out (k := 2) (by decide))
    rintro e w2 ⟨rfl, v2, k, g⟩
    replace H := hid k
    replace G := hid (G.out.trans g)
    clear k g
    generalize hq2 : s1.halves 2 = s2 at *
    clear hq2 HS HO cp ch cl
    have HS := HS2
    clear HS2
    have HO : Hid (s2.O.length ≤ 40) := hid HS.out.O
    have cp : w2.cell? ⟨b, 26, none⟩ = some (.int .i64 s2.p) := H.out.cp
    have ch : w2.cell? ⟨b, 27, none⟩ = some (.int .i64 s2.h) := H.out.ch
    have cl : w2.cell? ⟨b, 28, none⟩ = some (.int .i64 s2.l) := H.out.cl
    go_wp2
    go_still_tail 9, (by kernel_rfl)
    change wpList _ _ _ _ _ w2.drew
    replace H := hid H.out.drew
    go_wp2_with fail
    go_at_call 39
    refine (rop _ _ _ H.out (by have := HO.out; (try simp only [St.ask_len]); omega)).mono ?_
    rintro e w3 ⟨rfl, v3, k, g⟩
    replace H := hid k
    replace G := hid (G.out.trans g.drewl)
    clear k g
    go_wp2
    go_end0
    rw [HL.out]
    exact ⟨rfl, _, H.out, G.out⟩
  · have f15 : ¬ 15 < arg := by omega
    have cp : w.cell? ⟨b, 26, none⟩ = some (.int .i64 s.p) := H.out.cp
    have ch : w.cell? ⟨b, 27, none⟩ = some (.int .i64 s.h) := H.out.ch
    have cl : w.cell? ⟨b, 28, none⟩ = some (.int .i64 s.l) := H.out.cl
    have HL : Hid ((colE (3 == 3) 8 arg s) = (((s.put (arg)).halves 2).ask 9 ((s.put (arg)).halves 2).h ((s.put (arg)).halves 2).l)) := hid (by show ((s.put (min arg 15)).halves 2).ask 9 ((s.put (min arg 15)).halves 2).h ((s.put (min arg 15)).halves 2).l = _; rw [show min arg 15 = arg by omega])
    clear hc hb
    go_enter Tryz.func31, Tryz.ntmps31
    go_wp2_with fail
    go_at_call 40
    refine (rput (arg) H.out (by omega) (by omega)).mono ?_
    have HS2 := hid (St.Ok.put HS.out (p := arg) (by omega) (by omega))
    rintro e w1 ⟨rfl, v1, k, g⟩
    replace H := hid k
    replace G := hid (G.out.trans g)
    clear k g
    generalize hq1 : s.put (arg) = s1 at *
    clear hq1 HS HO cp ch cl
    have HS := HS2
    clear HS2
    have HO : Hid (s1.O.length ≤ 40) := hid HS.out.O
    have cp : w1.cell? ⟨b, 26, none⟩ = some (.int .i64 s1.p) := H.out.cp
    have ch : w1.cell? ⟨b, 27, none⟩ = some (.int .i64 s1.h) := H.out.ch
    have cl : w1.cell? ⟨b, 28, none⟩ = some (.int .i64 s1.l) := H.out.cl
    go_wp2_with fail
    go_at_call 42
    refine (rhalves 2 (by decide) H.out HS.out).mono ?_
    have HS2 := hid (St.Ok.halves HS.out (k := 2) (by decide))
    rintro e w2 ⟨rfl, v2, k, g⟩
    replace H := hid k
    replace G := hid (G.out.trans g)
    clear k g
    generalize hq2 : s1.halves 2 = s2 at *
    clear hq2 HS HO cp ch cl
    have HS := HS2
    clear HS2
    have HO : Hid (s2.O.length ≤ 40) := hid HS.out.O
    have cp : w2.cell? ⟨b, 26, none⟩ = some (.int .i64 s2.p) := H.out.cp
    have ch : w2.cell? ⟨b, 27, none⟩ = some (.int .i64 s2.h) := H.out.ch
    have cl : w2.cell? ⟨b, 28, none⟩ = some (.int .i64 s2.l) := H.out.cl
    go_wp2
    go_still_tail 9, (by kernel_rfl)
    change wpList _ _ _ _ _ w2.drew
    replace H := hid H.out.drew
    go_wp2_with fail
    go_at_call 39
    refine (rop _ _ _ H.out (by have := HO.out; (try simp only [St.ask_len]); omega)).mono ?_
    rintro e w3 ⟨rfl, v3, k, g⟩
    replace H := hid k
    replace G := hid (G.out.trans g.drewl)
    clear k g
    go_wp2
    go_end0
    rw [HL.out]
    exact ⟨rfl, _, H.out, G.out⟩
set_option maxHeartbeats 1000000 in
set_option maxRecDepth 100000 in
theorem rcol8n (h : RAt b base s v w) (hs : s.Ok 15) (arg : Int) (a0 : 0 ≤ arg) (a1 : arg ≤ 99) : Calls Tryz.prog 31 #[.pointer (some ⟨b, 0, none⟩), .int .i64 4, .int .i64 8, .int .i64 arg] w (RRan b base (colE (4 == 3) 8 arg s) v w) := by
  have H := hid h
  have G := hid (Steps.refl b v w)
  have HS := hid hs
  have HO : Hid (s.O.length ≤ 40) := hid hs.O
  clear h hs
  have hb := And.intro HS.out.h (And.intro HS.out.l HS.out.p)
  have hc : (15 < arg) ∨ (arg ≤ 15) := by omega
  rcases hc with hc | hc
  · have f16 : 15 < arg := by omega
    have cp : w.cell? ⟨b, 26, none⟩ = some (.int .i64 s.p) := H.out.cp
    have ch : w.cell? ⟨b, 27, none⟩ = some (.int .i64 s.h) := H.out.ch
    have cl : w.cell? ⟨b, 28, none⟩ = some (.int .i64 s.l) := H.out.cl
    have HL : Hid ((colE (4 == 3) 8 arg s) = (((s.put (15)).halves 3).ask 9 ((s.put (15)).halves 3).h ((s.put (15)).halves 3).l)) := hid (by show ((s.put (min arg 15)).halves 3).ask 9 ((s.put (min arg 15)).halves 3).h ((s.put (min arg 15)).halves 3).l = _; rw [show min arg 15 = 15 by omega])
    clear hc hb
    go_enter Tryz.func31, Tryz.ntmps31
    go_wp2_with fail
    go_at_call 40
    refine (rput (15) H.out (by omega) (by omega)).mono ?_
    have HS2 := hid (St.Ok.put HS.out (p := 15) (by omega) (by omega))
    rintro e w1 ⟨rfl, v1, k, g⟩
    replace H := hid k
    replace G := hid (G.out.trans g)
    clear k g
    generalize hq1 : s.put (15) = s1 at *
    clear hq1 HS HO cp ch cl
    have HS := HS2
    clear HS2
    have HO : Hid (s1.O.length ≤ 40) := hid HS.out.O
    have cp : w1.cell? ⟨b, 26, none⟩ = some (.int .i64 s1.p) := H.out.cp
    have ch : w1.cell? ⟨b, 27, none⟩ = some (.int .i64 s1.h) := H.out.ch
    have cl : w1.cell? ⟨b, 28, none⟩ = some (.int .i64 s1.l) := H.out.cl
    go_wp2_with fail
    go_at_call 42
    refine (rhalves 3 (by decide) H.out HS.out).mono ?_
    have HS2 := hid (St.Ok.halves HS.out (k := 3) (by decide))
    rintro e w2 ⟨rfl, v2, k, g⟩
    replace H := hid k
    replace G := hid (G.out.trans g)
    clear k g
    generalize hq2 : s1.halves 3 = s2 at *
    clear hq2 HS HO cp ch cl
    have HS := HS2
    clear HS2
    have HO : Hid (s2.O.length ≤ 40) := hid HS.out.O
    have cp : w2.cell? ⟨b, 26, none⟩ = some (.int .i64 s2.p) := H.out.cp
    have ch : w2.cell? ⟨b, 27, none⟩ = some (.int .i64 s2.h) := H.out.ch
    have cl : w2.cell? ⟨b, 28, none⟩ = some (.int .i64 s2.l) := H.out.cl
    go_wp2
    go_still_tail 9, (by kernel_rfl)
    change wpList _ _ _ _ _ w2.drew
    replace H := hid H.out.drew
    go_wp2_with fail
    go_at_call 39
    refine (rop _ _ _ H.out (by have := HO.out; (try simp only [St.ask_len]); omega)).mono ?_
    rintro e w3 ⟨rfl, v3, k, g⟩
    replace H := hid k
    replace G := hid (G.out.trans g.drewl)
    clear k g
    go_wp2
    go_end0
    rw [HL.out]
    exact ⟨rfl, _, H.out, G.out⟩
  · have f17 : ¬ 15 < arg := by omega
    have cp : w.cell? ⟨b, 26, none⟩ = some (.int .i64 s.p) := H.out.cp
    have ch : w.cell? ⟨b, 27, none⟩ = some (.int .i64 s.h) := H.out.ch
    have cl : w.cell? ⟨b, 28, none⟩ = some (.int .i64 s.l) := H.out.cl
    have HL : Hid ((colE (4 == 3) 8 arg s) = (((s.put (arg)).halves 3).ask 9 ((s.put (arg)).halves 3).h ((s.put (arg)).halves 3).l)) := hid (by show ((s.put (min arg 15)).halves 3).ask 9 ((s.put (min arg 15)).halves 3).h ((s.put (min arg 15)).halves 3).l = _; rw [show min arg 15 = arg by omega])
    clear hc hb
    go_enter Tryz.func31, Tryz.ntmps31
    go_wp2_with fail
    go_at_call 40
    refine (rput (arg) H.out (by omega) (by omega)).mono ?_
    have HS2 := hid (St.Ok.put HS.out (p := arg) (by omega) (by omega))
    rintro e w1 ⟨rfl, v1, k, g⟩
    replace H := hid k
    replace G := hid (G.out.trans g)
    clear k g
    generalize hq1 : s.put (arg) = s1 at *
    clear hq1 HS HO cp ch cl
    have HS := HS2
    clear HS2
    have HO : Hid (s1.O.length ≤ 40) := hid HS.out.O
    have cp : w1.cell? ⟨b, 26, none⟩ = some (.int .i64 s1.p) := H.out.cp
    have ch : w1.cell? ⟨b, 27, none⟩ = some (.int .i64 s1.h) := H.out.ch
    have cl : w1.cell? ⟨b, 28, none⟩ = some (.int .i64 s1.l) := H.out.cl
    go_wp2_with fail
    go_at_call 42
    refine (rhalves 3 (by decide) H.out HS.out).mono ?_
    have HS2 := hid (St.Ok.halves HS.out (k := 3) (by decide))
    rintro e w2 ⟨rfl, v2, k, g⟩
    replace H := hid k
    replace G := hid (G.out.trans g)
    clear k g
    generalize hq2 : s1.halves 3 = s2 at *
    clear hq2 HS HO cp ch cl
    have HS := HS2
    clear HS2
    have HO : Hid (s2.O.length ≤ 40) := hid HS.out.O
    have cp : w2.cell? ⟨b, 26, none⟩ = some (.int .i64 s2.p) := H.out.cp
    have ch : w2.cell? ⟨b, 27, none⟩ = some (.int .i64 s2.h) := H.out.ch
    have cl : w2.cell? ⟨b, 28, none⟩ = some (.int .i64 s2.l) := H.out.cl
    go_wp2
    go_still_tail 9, (by kernel_rfl)
    change wpList _ _ _ _ _ w2.drew
    replace H := hid H.out.drew
    go_wp2_with fail
    go_at_call 39
    refine (rop _ _ _ H.out (by have := HO.out; (try simp only [St.ask_len]); omega)).mono ?_
    rintro e w3 ⟨rfl, v3, k, g⟩
    replace H := hid k
    replace G := hid (G.out.trans g.drewl)
    clear k g
    go_wp2
    go_end0
    rw [HL.out]
    exact ⟨rfl, _, H.out, G.out⟩
set_option maxHeartbeats 1000000 in
set_option maxRecDepth 100000 in
theorem rcol9 (h : RAt b base s v w) (hs : s.Ok 15) (arg : Int) (a0 : 0 ≤ arg) (a1 : arg ≤ 99) : Calls Tryz.prog 31 #[.pointer (some ⟨b, 0, none⟩), .int .i64 d, .int .i64 9, .int .i64 arg] w (RRan b base (colE (d == 3) 9 arg s) v w) := by
  have H := hid h
  have G := hid (Steps.refl b v w)
  have HS := hid hs
  have HO : Hid (s.O.length ≤ 40) := hid hs.O
  clear h hs
  have hb := And.intro HS.out.h (And.intro HS.out.l HS.out.p)
  have hc : (d = 4) ∨ (d ≠ 4) := by omega
  rcases hc with hc | hc
  · have f0 : (d == 4) = true := beq_true (by omega)
    have HL : Hid ((colE (d == 3) 9 arg s) = (s.ask 3 (4 * arg) 0)) := hid (rfl)
    clear hc hb
    go_enter Tryz.func31, Tryz.ntmps31
    go_wp2_with fail
    go_at_call 39
    refine (rop _ _ _ H.out (by have := HO.out; (try simp only [St.ask_len]); omega)).mono ?_
    rintro e w1 ⟨rfl, v1, k, g⟩
    replace H := hid k
    replace G := hid (G.out.trans g)
    clear k g
    go_wp2
    go_end0
    rw [HL.out]
    exact ⟨rfl, _, H.out, G.out⟩
  · have f1 : (d == 4) = false := beq_false (by omega)
    have HL : Hid ((colE (d == 3) 9 arg s) = (s.ask 3 (4 * arg) 0)) := hid (rfl)
    clear hc hb
    go_enter Tryz.func31, Tryz.ntmps31
    go_wp2_with fail
    go_at_call 39
    refine (rop _ _ _ H.out (by have := HO.out; (try simp only [St.ask_len]); omega)).mono ?_
    rintro e w1 ⟨rfl, v1, k, g⟩
    replace H := hid k
    replace G := hid (G.out.trans g)
    clear k g
    go_wp2
    go_end0
    rw [HL.out]
    exact ⟨rfl, _, H.out, G.out⟩
set_option maxHeartbeats 1000000 in
set_option maxRecDepth 100000 in
theorem rcol10 (h : RAt b base s v w) (hs : s.Ok 15) (arg : Int) (a0 : 0 ≤ arg) (a1 : arg ≤ 99) : Calls Tryz.prog 31 #[.pointer (some ⟨b, 0, none⟩), .int .i64 d, .int .i64 10, .int .i64 arg] w (RRan b base (colE (d == 3) 10 arg s) v w) := by
  have H := hid h
  have G := hid (Steps.refl b v w)
  have HS := hid hs
  have HO : Hid (s.O.length ≤ 40) := hid hs.O
  clear h hs
  have hb := And.intro HS.out.h (And.intro HS.out.l HS.out.p)
  have hc : (d = 4) ∨ (d ≠ 4) := by omega
  rcases hc with hc | hc
  · have f0 : (d == 4) = true := beq_true (by omega)
    have HL : Hid ((colE (d == 3) 10 arg s) = (s.ask 2 (4 * arg) 0)) := hid (rfl)
    clear hc hb
    go_enter Tryz.func31, Tryz.ntmps31
    go_wp2_with fail
    go_at_call 39
    refine (rop _ _ _ H.out (by have := HO.out; (try simp only [St.ask_len]); omega)).mono ?_
    rintro e w1 ⟨rfl, v1, k, g⟩
    replace H := hid k
    replace G := hid (G.out.trans g)
    clear k g
    go_wp2
    go_end0
    rw [HL.out]
    exact ⟨rfl, _, H.out, G.out⟩
  · have f1 : (d == 4) = false := beq_false (by omega)
    have HL : Hid ((colE (d == 3) 10 arg s) = (s.ask 2 (4 * arg) 0)) := hid (rfl)
    clear hc hb
    go_enter Tryz.func31, Tryz.ntmps31
    go_wp2_with fail
    go_at_call 39
    refine (rop _ _ _ H.out (by have := HO.out; (try simp only [St.ask_len]); omega)).mono ?_
    rintro e w1 ⟨rfl, v1, k, g⟩
    replace H := hid k
    replace G := hid (G.out.trans g)
    clear k g
    go_wp2
    go_end0
    rw [HL.out]
    exact ⟨rfl, _, H.out, G.out⟩
theorem rcolumn (cmd arg : Int) (m0 : 1 ≤ cmd) (m1 : cmd ≤ volC d) (a0 : 0 ≤ arg) (a1 : arg ≤ 99) (h : RAt b base s v w) (hs : s.Ok 15) : Calls Tryz.prog 31 #[.pointer (some ⟨b, 0, none⟩), .int .i64 d, .int .i64 cmd, .int .i64 arg] w (RRan b base (colE (d == 3) cmd arg s) v w) := by
  have h10 : cmd ≤ 10 := by unfold volC at m1; (repeat' split at m1) <;> omega
  have h34 : 1 < cmd → d = 3 ∨ d = 4 := fun k => by unfold volC at m1; (repeat' split at m1) <;> omega
  have hc : cmd = 1 ∨ cmd = 2 ∨ cmd = 3 ∨ cmd = 4 ∨ cmd = 5 ∨ cmd = 6 ∨ cmd = 7 ∨ cmd = 8 ∨ cmd = 9 ∨ cmd = 10 := by omega
  rcases hc with rfl | rfl | rfl | rfl | rfl | rfl | rfl | rfl | rfl | rfl
  · exact rcol1 h hs arg a0 a1
  · exact rcol2 h hs arg
  · exact rcol3 h hs arg
  · exact rcol4 h hs arg
  · exact rcol5 h hs arg
  · exact rcol6 h hs arg a0 a1
  · rcases h34 (by decide) with rfl | rfl
    · exact rcol7f h hs arg a0 a1
    · exact rcol7n h hs arg a0 a1
  · rcases h34 (by decide) with rfl | rfl
    · exact rcol8f h hs arg a0 a1
    · exact rcol8n h hs arg a0 a1
  · exact rcol9 h hs arg a0 a1
  · exact rcol10 h hs arg a0 a1
end
end Go.Proofs.YtkpielgdfahanaaGreat
