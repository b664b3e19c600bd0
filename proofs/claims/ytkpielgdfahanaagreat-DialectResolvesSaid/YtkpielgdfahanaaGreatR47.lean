/- The reference's effects of compose. -/
import Derived.Test.YtkpielgdfahanaaGreatRFn
import Derived.Test.YtkpielgdfahanaaGreatEff2
namespace Go.Proofs.YtkpielgdfahanaaGreat
open Go.RowKit Go.Maps
section
variable {b base : Nat} {s : St} {v : Value} {w : World}
/-- What an effect of compose does in the reference. -/
def compR (c : Int) (s : St) : St := if c = 51 then s.ask 4 s.l 0 else if s.p = 0 then s else runE (dialG 5 c) s
set_option maxHeartbeats 1000000 in
set_option maxRecDepth 100000 in
theorem r47_48 (h : RAt b base s v w) (hs : s.Ok 15) : Calls Tryz.prog 47 #[.pointer (some ⟨b, 0, none⟩), .int .u8 48] w (RRan b base (compR 48 s) v w) := by
  have H := hid h
  have G := hid (Steps.refl b v w)
  have HS := hid hs
  have HO : Hid (s.O.length ≤ 40) := hid hs.O
  have HU : Hid (compR 48 s = if s.p = 0 then s else s.ask 2 s.p 0) := hid (rfl)
  clear h hs
  have hb := And.intro HS.out.h (And.intro HS.out.l HS.out.p)
  have hc : (s.p = 0) ∨ (s.p ≠ 0) := by omega
  rcases hc with hc | hc
  · have f45 : (s.p == 0) = true := beq_true (by omega)
    have cp : w.cell? ⟨b, 26, none⟩ = some (.int .i64 s.p) := H.out.cp
    have ch : w.cell? ⟨b, 27, none⟩ = some (.int .i64 s.h) := H.out.ch
    have cl : w.cell? ⟨b, 28, none⟩ = some (.int .i64 s.l) := H.out.cl
    have HL : Hid ((if s.p = 0 then s else s.ask 2 s.p 0) = (s)) := hid (by (repeat' split) <;> first | rfl | (exfalso; omega))
    clear hc hb
    go_enter Tryz.func47, Tryz.ntmps47
    go_wp2
    go_end0
    rw [HU.out, HL.out]
    exact ⟨rfl, _, H.out, G.out⟩
  · have f46 : (s.p == 0) = false := beq_false (by omega)
    have cp : w.cell? ⟨b, 26, none⟩ = some (.int .i64 s.p) := H.out.cp
    have ch : w.cell? ⟨b, 27, none⟩ = some (.int .i64 s.h) := H.out.ch
    have cl : w.cell? ⟨b, 28, none⟩ = some (.int .i64 s.l) := H.out.cl
    have HL : Hid ((if s.p = 0 then s else s.ask 2 s.p 0) = (s.ask 2 s.p 0)) := hid (by (repeat' split) <;> first | rfl | (exfalso; omega))
    clear hc hb
    go_enter Tryz.func47, Tryz.ntmps47
    go_wp2_with fail
    go_at_call 39
    refine (rop _ _ _ H.out (by have := HO.out; (try simp only [St.ask_len]); omega)).mono ?_
    rintro e w1 ⟨rfl, v1, k, g⟩
    replace H := hid k
    replace G := hid (G.out.trans g)
    clear k g
    go_wp2
    go_end0
    rw [HU.out, HL.out]
    exact ⟨rfl, _, H.out, G.out⟩
set_option maxHeartbeats 1000000 in
set_option maxRecDepth 100000 in
theorem r47_49 (h : RAt b base s v w) (hs : s.Ok 15) : Calls Tryz.prog 47 #[.pointer (some ⟨b, 0, none⟩), .int .u8 49] w (RRan b base (compR 49 s) v w) := by
  have H := hid h
  have G := hid (Steps.refl b v w)
  have HS := hid hs
  have HO : Hid (s.O.length ≤ 40) := hid hs.O
  have HU : Hid (compR 49 s = if s.p = 0 then s else s.ask 3 s.p 0) := hid (rfl)
  clear h hs
  have hb := And.intro HS.out.h (And.intro HS.out.l HS.out.p)
  have hc : (s.p = 0) ∨ (s.p ≠ 0) := by omega
  rcases hc with hc | hc
  · have f47 : (s.p == 0) = true := beq_true (by omega)
    have cp : w.cell? ⟨b, 26, none⟩ = some (.int .i64 s.p) := H.out.cp
    have ch : w.cell? ⟨b, 27, none⟩ = some (.int .i64 s.h) := H.out.ch
    have cl : w.cell? ⟨b, 28, none⟩ = some (.int .i64 s.l) := H.out.cl
    have HL : Hid ((if s.p = 0 then s else s.ask 3 s.p 0) = (s)) := hid (by (repeat' split) <;> first | rfl | (exfalso; omega))
    clear hc hb
    go_enter Tryz.func47, Tryz.ntmps47
    go_wp2
    go_end0
    rw [HU.out, HL.out]
    exact ⟨rfl, _, H.out, G.out⟩
  · have f48 : (s.p == 0) = false := beq_false (by omega)
    have cp : w.cell? ⟨b, 26, none⟩ = some (.int .i64 s.p) := H.out.cp
    have ch : w.cell? ⟨b, 27, none⟩ = some (.int .i64 s.h) := H.out.ch
    have cl : w.cell? ⟨b, 28, none⟩ = some (.int .i64 s.l) := H.out.cl
    have HL : Hid ((if s.p = 0 then s else s.ask 3 s.p 0) = (s.ask 3 s.p 0)) := hid (by (repeat' split) <;> first | rfl | (exfalso; omega))
    clear hc hb
    go_enter Tryz.func47, Tryz.ntmps47
    go_wp2_with fail
    go_at_call 39
    refine (rop _ _ _ H.out (by have := HO.out; (try simp only [St.ask_len]); omega)).mono ?_
    rintro e w1 ⟨rfl, v1, k, g⟩
    replace H := hid k
    replace G := hid (G.out.trans g)
    clear k g
    go_wp2
    go_end0
    rw [HU.out, HL.out]
    exact ⟨rfl, _, H.out, G.out⟩
set_option maxHeartbeats 1000000 in
set_option maxRecDepth 100000 in
theorem r47_50 (h : RAt b base s v w) (hs : s.Ok 15) : Calls Tryz.prog 47 #[.pointer (some ⟨b, 0, none⟩), .int .u8 50] w (RRan b base (compR 50 s) v w) := by
  have H := hid h
  have G := hid (Steps.refl b v w)
  have HS := hid hs
  have HO : Hid (s.O.length ≤ 40) := hid hs.O
  have HU : Hid (compR 50 s = if s.p = 0 then s else s.ask 8 s.p 0) := hid (rfl)
  clear h hs
  have hb := And.intro HS.out.h (And.intro HS.out.l HS.out.p)
  have hc : (s.p = 0) ∨ (s.p ≠ 0) := by omega
  rcases hc with hc | hc
  · have f49 : (s.p == 0) = true := beq_true (by omega)
    have cp : w.cell? ⟨b, 26, none⟩ = some (.int .i64 s.p) := H.out.cp
    have ch : w.cell? ⟨b, 27, none⟩ = some (.int .i64 s.h) := H.out.ch
    have cl : w.cell? ⟨b, 28, none⟩ = some (.int .i64 s.l) := H.out.cl
    have HL : Hid ((if s.p = 0 then s else s.ask 8 s.p 0) = (s)) := hid (by (repeat' split) <;> first | rfl | (exfalso; omega))
    clear hc hb
    go_enter Tryz.func47, Tryz.ntmps47
    go_wp2
    go_end0
    rw [HU.out, HL.out]
    exact ⟨rfl, _, H.out, G.out⟩
  · have f50 : (s.p == 0) = false := beq_false (by omega)
    have cp : w.cell? ⟨b, 26, none⟩ = some (.int .i64 s.p) := H.out.cp
    have ch : w.cell? ⟨b, 27, none⟩ = some (.int .i64 s.h) := H.out.ch
    have cl : w.cell? ⟨b, 28, none⟩ = some (.int .i64 s.l) := H.out.cl
    have HL : Hid ((if s.p = 0 then s else s.ask 8 s.p 0) = (s.ask 8 s.p 0)) := hid (by (repeat' split) <;> first | rfl | (exfalso; omega))
    clear hc hb
    go_enter Tryz.func47, Tryz.ntmps47
    go_wp2_with fail
    go_at_call 39
    refine (rop _ _ _ H.out (by have := HO.out; (try simp only [St.ask_len]); omega)).mono ?_
    rintro e w1 ⟨rfl, v1, k, g⟩
    replace H := hid k
    replace G := hid (G.out.trans g)
    clear k g
    go_wp2
    go_end0
    rw [HU.out, HL.out]
    exact ⟨rfl, _, H.out, G.out⟩
set_option maxHeartbeats 1000000 in
set_option maxRecDepth 100000 in
theorem r47_52 (h : RAt b base s v w) (hs : s.Ok 15) : Calls Tryz.prog 47 #[.pointer (some ⟨b, 0, none⟩), .int .u8 52] w (RRan b base (compR 52 s) v w) := by
  have H := hid h
  have G := hid (Steps.refl b v w)
  have HS := hid hs
  have HO : Hid (s.O.length ≤ 40) := hid hs.O
  have HU : Hid (compR 52 s = if s.p = 0 then s else s.ask 9 s.h s.l) := hid (rfl)
  clear h hs
  have hb := And.intro HS.out.h (And.intro HS.out.l HS.out.p)
  have hc : (s.p = 0) ∨ (s.p ≠ 0) := by omega
  rcases hc with hc | hc
  · have f51 : (s.p == 0) = true := beq_true (by omega)
    have cp : w.cell? ⟨b, 26, none⟩ = some (.int .i64 s.p) := H.out.cp
    have ch : w.cell? ⟨b, 27, none⟩ = some (.int .i64 s.h) := H.out.ch
    have cl : w.cell? ⟨b, 28, none⟩ = some (.int .i64 s.l) := H.out.cl
    have HL : Hid ((if s.p = 0 then s else s.ask 9 s.h s.l) = (s)) := hid (by (repeat' split) <;> first | rfl | (exfalso; omega))
    clear hc hb
    go_enter Tryz.func47, Tryz.ntmps47
    go_wp2
    go_end0
    rw [HU.out, HL.out]
    exact ⟨rfl, _, H.out, G.out⟩
  · have f52 : (s.p == 0) = false := beq_false (by omega)
    have cp : w.cell? ⟨b, 26, none⟩ = some (.int .i64 s.p) := H.out.cp
    have ch : w.cell? ⟨b, 27, none⟩ = some (.int .i64 s.h) := H.out.ch
    have cl : w.cell? ⟨b, 28, none⟩ = some (.int .i64 s.l) := H.out.cl
    have HL : Hid ((if s.p = 0 then s else s.ask 9 s.h s.l) = (s.ask 9 s.h s.l)) := hid (by (repeat' split) <;> first | rfl | (exfalso; omega))
    clear hc hb
    go_enter Tryz.func47, Tryz.ntmps47
    go_wp2
    go_still_tail 9, (by kernel_rfl)
    change wpList _ _ _ _ _ w.drew
    replace H := hid H.out.drew
    go_wp2_with fail
    go_at_call 39
    refine (rop _ _ _ H.out (by have := HO.out; (try simp only [St.ask_len]); omega)).mono ?_
    rintro e w1 ⟨rfl, v1, k, g⟩
    replace H := hid k
    replace G := hid (G.out.trans g.drewl)
    clear k g
    go_wp2
    go_end0
    rw [HU.out, HL.out]
    exact ⟨rfl, _, H.out, G.out⟩
set_option maxHeartbeats 1000000 in
set_option maxRecDepth 100000 in
theorem r47_53 (h : RAt b base s v w) (hs : s.Ok 15) : Calls Tryz.prog 47 #[.pointer (some ⟨b, 0, none⟩), .int .u8 53] w (RRan b base (compR 53 s) v w) := by
  have H := hid h
  have G := hid (Steps.refl b v w)
  have HS := hid hs
  have HO : Hid (s.O.length ≤ 40) := hid hs.O
  have HU : Hid (compR 53 s = if s.p = 0 then s else (if s.p = 0 then s else s.ask 36 s.p 0)) := hid (rfl)
  clear h hs
  have hb := And.intro HS.out.h (And.intro HS.out.l HS.out.p)
  have hc : (s.p = 0) ∨ (s.p ≠ 0) := by omega
  rcases hc with hc | hc
  · have f53 : (s.p == 0) = true := beq_true (by omega)
    have cp : w.cell? ⟨b, 26, none⟩ = some (.int .i64 s.p) := H.out.cp
    have HL : Hid ((if s.p = 0 then s else (if s.p = 0 then s else s.ask 36 s.p 0)) = (s)) := hid (by (repeat' split) <;> first | rfl | (exfalso; omega))
    clear hc hb
    go_enter Tryz.func47, Tryz.ntmps47
    go_wp2
    go_end0
    rw [HU.out, HL.out]
    exact ⟨rfl, _, H.out, G.out⟩
  · have f54 : (s.p == 0) = false := beq_false (by omega)
    have cp : w.cell? ⟨b, 26, none⟩ = some (.int .i64 s.p) := H.out.cp
    have HL : Hid ((if s.p = 0 then s else (if s.p = 0 then s else s.ask 36 s.p 0)) = (s.ask 36 s.p 0)) := hid (by (repeat' split) <;> first | rfl | (exfalso; omega))
    clear hc hb
    go_enter Tryz.func47, Tryz.ntmps47
    go_wp2_with fail
    go_at_call 39
    refine (rop _ _ _ H.out (by have := HO.out; (try simp only [St.ask_len]); omega)).mono ?_
    rintro e w1 ⟨rfl, v1, k, g⟩
    replace H := hid k
    replace G := hid (G.out.trans g)
    clear k g
    go_wp2
    go_end0
    rw [HU.out, HL.out]
    exact ⟨rfl, _, H.out, G.out⟩
set_option maxHeartbeats 1000000 in
set_option maxRecDepth 100000 in
theorem r47_51 (h : RAt b base s v w) (hs : s.Ok 15) : Calls Tryz.prog 47 #[.pointer (some ⟨b, 0, none⟩), .int .u8 51] w (RRan b base (compR 51 s) v w) := by
  have H := hid h
  have G := hid (Steps.refl b v w)
  have HS := hid hs
  have HO : Hid (s.O.length ≤ 40) := hid hs.O
  clear h hs
  have hb := And.intro HS.out.h (And.intro HS.out.l HS.out.p)
  have hc : (s.p = 0) ∨ (s.p ≠ 0) := by omega
  rcases hc with hc | hc
  · have f55 : (s.p == 0) = true := beq_true (by omega)
    have cp : w.cell? ⟨b, 26, none⟩ = some (.int .i64 s.p) := H.out.cp
    have cl : w.cell? ⟨b, 28, none⟩ = some (.int .i64 s.l) := H.out.cl
    have HL : Hid ((compR 51 s) = (s.ask 4 s.l 0)) := hid (rfl)
    clear hc hb
    go_enter Tryz.func47, Tryz.ntmps47
    go_wp2_with fail
    go_at_call 39
    refine (rop _ _ _ H.out (by have := HO.out; (try simp only [St.ask_len]); omega)).mono ?_
    rintro e w1 ⟨rfl, v1, k, g⟩
    replace H := hid k
    replace G := hid (G.out.trans g)
    clear k g
    go_wp2
    go_end0
    rw [HL.out]
    exact ⟨rfl, _, H.out, G.out⟩
  · have f56 : (s.p == 0) = false := beq_false (by omega)
    have cp : w.cell? ⟨b, 26, none⟩ = some (.int .i64 s.p) := H.out.cp
    have cl : w.cell? ⟨b, 28, none⟩ = some (.int .i64 s.l) := H.out.cl
    have HL : Hid ((compR 51 s) = (s.ask 4 s.l 0)) := hid (rfl)
    clear hc hb
    go_enter Tryz.func47, Tryz.ntmps47
    go_wp2_with fail
    go_at_call 39
    refine (rop _ _ _ H.out (by have := HO.out; (try simp only [St.ask_len]); omega)).mono ?_
    rintro e w1 ⟨rfl, v1, k, g⟩
    replace H := hid k
    replace G := hid (G.out.trans g)
    clear k g
    go_wp2
    go_end0
    rw [HL.out]
    exact ⟨rfl, _, H.out, G.out⟩
end
end Go.Proofs.YtkpielgdfahanaaGreat
