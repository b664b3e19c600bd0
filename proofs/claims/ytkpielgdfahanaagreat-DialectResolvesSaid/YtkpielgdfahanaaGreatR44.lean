/- The reference's effects of scream. -/
import Derived.Test.YtkpielgdfahanaaGreatRFn
import Derived.Test.YtkpielgdfahanaaGreatHasP
import Derived.Test.YtkpielgdfahanaaGreatEff2
namespace Go.Proofs.YtkpielgdfahanaaGreat
open Go.RowKit Go.Maps
section
variable {b base : Nat} {s : St} {v : Value} {w : World}
theorem has_scream65 (w : World) : Calls Tryz.prog 27 #[.string ⟨#[68, 69, 70, 73, 74, 75, 76, 81, 82, 83]⟩, .int .u8 65] w fun e w' => e = .returned (.bool false) ∧ w = w' := has_any [68, 69, 70, 73, 74, 75, 76, 81, 82, 83] 65 w (by decide)
theorem has_scream66 (w : World) : Calls Tryz.prog 27 #[.string ⟨#[68, 69, 70, 73, 74, 75, 76, 81, 82, 83]⟩, .int .u8 66] w fun e w' => e = .returned (.bool false) ∧ w = w' := has_any [68, 69, 70, 73, 74, 75, 76, 81, 82, 83] 66 w (by decide)
theorem has_scream67 (w : World) : Calls Tryz.prog 27 #[.string ⟨#[68, 69, 70, 73, 74, 75, 76, 81, 82, 83]⟩, .int .u8 67] w fun e w' => e = .returned (.bool false) ∧ w = w' := has_any [68, 69, 70, 73, 74, 75, 76, 81, 82, 83] 67 w (by decide)
theorem has_scream68 (w : World) : Calls Tryz.prog 27 #[.string ⟨#[68, 69, 70, 73, 74, 75, 76, 81, 82, 83]⟩, .int .u8 68] w fun e w' => e = .returned (.bool true) ∧ w = w' := has_any [68, 69, 70, 73, 74, 75, 76, 81, 82, 83] 68 w (by decide)
theorem has_scream69 (w : World) : Calls Tryz.prog 27 #[.string ⟨#[68, 69, 70, 73, 74, 75, 76, 81, 82, 83]⟩, .int .u8 69] w fun e w' => e = .returned (.bool true) ∧ w = w' := has_any [68, 69, 70, 73, 74, 75, 76, 81, 82, 83] 69 w (by decide)
theorem has_scream70 (w : World) : Calls Tryz.prog 27 #[.string ⟨#[68, 69, 70, 73, 74, 75, 76, 81, 82, 83]⟩, .int .u8 70] w fun e w' => e = .returned (.bool true) ∧ w = w' := has_any [68, 69, 70, 73, 74, 75, 76, 81, 82, 83] 70 w (by decide)
theorem has_scream71 (w : World) : Calls Tryz.prog 27 #[.string ⟨#[68, 69, 70, 73, 74, 75, 76, 81, 82, 83]⟩, .int .u8 71] w fun e w' => e = .returned (.bool false) ∧ w = w' := has_any [68, 69, 70, 73, 74, 75, 76, 81, 82, 83] 71 w (by decide)
theorem has_scream72 (w : World) : Calls Tryz.prog 27 #[.string ⟨#[68, 69, 70, 73, 74, 75, 76, 81, 82, 83]⟩, .int .u8 72] w fun e w' => e = .returned (.bool false) ∧ w = w' := has_any [68, 69, 70, 73, 74, 75, 76, 81, 82, 83] 72 w (by decide)
theorem has_scream73 (w : World) : Calls Tryz.prog 27 #[.string ⟨#[68, 69, 70, 73, 74, 75, 76, 81, 82, 83]⟩, .int .u8 73] w fun e w' => e = .returned (.bool true) ∧ w = w' := has_any [68, 69, 70, 73, 74, 75, 76, 81, 82, 83] 73 w (by decide)
theorem has_scream74 (w : World) : Calls Tryz.prog 27 #[.string ⟨#[68, 69, 70, 73, 74, 75, 76, 81, 82, 83]⟩, .int .u8 74] w fun e w' => e = .returned (.bool true) ∧ w = w' := has_any [68, 69, 70, 73, 74, 75, 76, 81, 82, 83] 74 w (by decide)
theorem has_scream75 (w : World) : Calls Tryz.prog 27 #[.string ⟨#[68, 69, 70, 73, 74, 75, 76, 81, 82, 83]⟩, .int .u8 75] w fun e w' => e = .returned (.bool true) ∧ w = w' := has_any [68, 69, 70, 73, 74, 75, 76, 81, 82, 83] 75 w (by decide)
theorem has_scream76 (w : World) : Calls Tryz.prog 27 #[.string ⟨#[68, 69, 70, 73, 74, 75, 76, 81, 82, 83]⟩, .int .u8 76] w fun e w' => e = .returned (.bool true) ∧ w = w' := has_any [68, 69, 70, 73, 74, 75, 76, 81, 82, 83] 76 w (by decide)
theorem has_scream79 (w : World) : Calls Tryz.prog 27 #[.string ⟨#[68, 69, 70, 73, 74, 75, 76, 81, 82, 83]⟩, .int .u8 79] w fun e w' => e = .returned (.bool false) ∧ w = w' := has_any [68, 69, 70, 73, 74, 75, 76, 81, 82, 83] 79 w (by decide)
theorem has_scream81 (w : World) : Calls Tryz.prog 27 #[.string ⟨#[68, 69, 70, 73, 74, 75, 76, 81, 82, 83]⟩, .int .u8 81] w fun e w' => e = .returned (.bool true) ∧ w = w' := has_any [68, 69, 70, 73, 74, 75, 76, 81, 82, 83] 81 w (by decide)
theorem has_scream82 (w : World) : Calls Tryz.prog 27 #[.string ⟨#[68, 69, 70, 73, 74, 75, 76, 81, 82, 83]⟩, .int .u8 82] w fun e w' => e = .returned (.bool true) ∧ w = w' := has_any [68, 69, 70, 73, 74, 75, 76, 81, 82, 83] 82 w (by decide)
theorem has_scream83 (w : World) : Calls Tryz.prog 27 #[.string ⟨#[68, 69, 70, 73, 74, 75, 76, 81, 82, 83]⟩, .int .u8 83] w fun e w' => e = .returned (.bool true) ∧ w = w' := has_any [68, 69, 70, 73, 74, 75, 76, 81, 82, 83] 83 w (by decide)
theorem has_scream84 (w : World) : Calls Tryz.prog 27 #[.string ⟨#[68, 69, 70, 73, 74, 75, 76, 81, 82, 83]⟩, .int .u8 84] w fun e w' => e = .returned (.bool false) ∧ w = w' := has_any [68, 69, 70, 73, 74, 75, 76, 81, 82, 83] 84 w (by decide)
theorem has_scream85 (w : World) : Calls Tryz.prog 27 #[.string ⟨#[68, 69, 70, 73, 74, 75, 76, 81, 82, 83]⟩, .int .u8 85] w fun e w' => e = .returned (.bool false) ∧ w = w' := has_any [68, 69, 70, 73, 74, 75, 76, 81, 82, 83] 85 w (by decide)
theorem has_scream86 (w : World) : Calls Tryz.prog 27 #[.string ⟨#[68, 69, 70, 73, 74, 75, 76, 81, 82, 83]⟩, .int .u8 86] w fun e w' => e = .returned (.bool false) ∧ w = w' := has_any [68, 69, 70, 73, 74, 75, 76, 81, 82, 83] 86 w (by decide)
theorem has_scream88 (w : World) : Calls Tryz.prog 27 #[.string ⟨#[68, 69, 70, 73, 74, 75, 76, 81, 82, 83]⟩, .int .u8 88] w fun e w' => e = .returned (.bool false) ∧ w = w' := has_any [68, 69, 70, 73, 74, 75, 76, 81, 82, 83] 88 w (by decide)
set_option maxHeartbeats 1000000 in
set_option maxRecDepth 100000 in
theorem r44_65 (h : RAt b base s v w) (hs : s.Ok 15) : Calls Tryz.prog 44 #[.pointer (some ⟨b, 0, none⟩), .int .u8 65] w (RRan b base (runE (dialG 2 65) s) v w) := by
  have H := hid h
  have G := hid (Steps.refl b v w)
  have HS := hid hs
  have HO : Hid (s.O.length ≤ 40) := hid hs.O
  have HU : Hid (runE (dialG 2 65) s = speedE s) := hid (rfl)
  clear h hs
  go_enter Tryz.func44, Tryz.ntmps44
  go_wp2_with fail
  go_at_call 27
  refine (has_scream65 _).mono ?_
  rintro e w0 ⟨rfl, rfl⟩
  go_wp2_with fail
  go_at_call 56
  refine (rspeed H.out (by have := HO.out; (try simp only [St.ask_len]); omega)).mono ?_
  rintro e w1 ⟨rfl, v1, k, g⟩
  replace H := hid k
  replace G := hid (G.out.trans g)
  clear k g
  go_wp2
  go_end0
  rw [HU.out]
  exact ⟨rfl, _, H.out, G.out⟩
set_option maxHeartbeats 1000000 in
set_option maxRecDepth 100000 in
theorem r44_66 (h : RAt b base s v w) (hs : s.Ok 15) : Calls Tryz.prog 44 #[.pointer (some ⟨b, 0, none⟩), .int .u8 66] w (RRan b base (runE (dialG 2 66) s) v w) := by
  have H := hid h
  have G := hid (Steps.refl b v w)
  have HS := hid hs
  have HO : Hid (s.O.length ≤ 40) := hid hs.O
  have HU : Hid (runE (dialG 2 66) s = s.ask 32 s.p 0) := hid (rfl)
  clear h hs
  have cp : w.cell? ⟨b, 26, none⟩ = some (.int .i64 s.p) := H.out.cp
  go_enter Tryz.func44, Tryz.ntmps44
  go_wp2_with fail
  go_at_call 27
  refine (has_scream66 _).mono ?_
  rintro e w0 ⟨rfl, rfl⟩
  go_wp2_with fail
  go_at_call 39
  refine (rop _ _ _ H.out (by have := HO.out; (try simp only [St.ask_len]); omega)).mono ?_
  rintro e w1 ⟨rfl, v1, k, g⟩
  replace H := hid k
  replace G := hid (G.out.trans g)
  clear k g
  go_wp2
  go_end0
  rw [HU.out]
  exact ⟨rfl, _, H.out, G.out⟩
set_option maxHeartbeats 1000000 in
set_option maxRecDepth 100000 in
theorem r44_67 (h : RAt b base s v w) (hs : s.Ok 15) : Calls Tryz.prog 44 #[.pointer (some ⟨b, 0, none⟩), .int .u8 67] w (RRan b base (runE (dialG 2 67) s) v w) := by
  have H := hid h
  have G := hid (Steps.refl b v w)
  have HS := hid hs
  have HO : Hid (s.O.length ≤ 40) := hid hs.O
  have HU : Hid (runE (dialG 2 67) s = s.ask 33 (10 * s.h + s.l) 0) := hid (rfl)
  clear h hs
  have ch : w.cell? ⟨b, 27, none⟩ = some (.int .i64 s.h) := H.out.ch
  have cl : w.cell? ⟨b, 28, none⟩ = some (.int .i64 s.l) := H.out.cl
  obtain ⟨h0, h1⟩ : 0 ≤ s.h ∧ s.h ≤ 15 := HS.out.h
  obtain ⟨l0, l1⟩ : 0 ≤ s.l ∧ s.l ≤ 15 := HS.out.l
  go_enter Tryz.func44, Tryz.ntmps44
  go_wp2_with fail
  go_at_call 27
  refine (has_scream67 _).mono ?_
  rintro e w0 ⟨rfl, rfl⟩
  go_wp2
  go_still_tail 11, (by kernel_rfl)
  change wpList _ _ _ _ _ w.drew
  replace H := hid H.out.drew
  go_wp2_with fail
  go_at_call 39
  refine (rop _ _ _ H.out (by have := HO.out; (try simp only [St.ask_len]); omega)).mono ?_
  rintro e w1 ⟨rfl, v1, k, g⟩
  replace H := hid k
  replace G := hid (G.out.trans g.drewl)
  clear k g
  go_wp2
  go_end0
  rw [HU.out]
  exact ⟨rfl, _, H.out, G.out⟩
set_option maxHeartbeats 1000000 in
set_option maxRecDepth 100000 in
theorem r44_68 (h : RAt b base s v w) (hs : s.Ok 15) : Calls Tryz.prog 44 #[.pointer (some ⟨b, 0, none⟩), .int .u8 68] w (RRan b base (runE (dialG 2 68) s) v w) := by
  have H := hid h
  have G := hid (Steps.refl b v w)
  have HS := hid hs
  have HO : Hid (s.O.length ≤ 40) := hid hs.O
  have HU : Hid (runE (dialG 2 68) s = slideE (s.whole 1)) := hid (rfl)
  clear h hs
  go_enter Tryz.func44, Tryz.ntmps44
  go_wp2_with fail
  go_at_call 27
  refine (has_scream68 _).mono ?_
  rintro e w0 ⟨rfl, rfl⟩
  go_wp2_with fail
  go_at_call 41
  refine (rwhole 1 (by decide) H.out HS.out).mono ?_
  have HS2 := hid (St.Ok.whole HS.out (k := 1) (by decide))
  rintro e w1 ⟨rfl, v1, k, g⟩
  replace H := hid k
  replace G := hid (G.out.trans g)
  clear k g
  generalize hq1 : s.whole 1 = s1 at *
  clear hq1 HS HO
  have HS := HS2
  clear HS2
  have HO : Hid (s1.O.length ≤ 40) := hid HS.out.O
  go_wp2_with fail
  go_at_call 57
  refine (rslide H.out (by have := HO.out; (try simp only [St.ask_len]); omega)).mono ?_
  rintro e w2 ⟨rfl, v2, k, g⟩
  replace H := hid k
  replace G := hid (G.out.trans g)
  clear k g
  go_wp2
  go_end0
  rw [HU.out]
  exact ⟨rfl, _, H.out, G.out⟩
set_option maxHeartbeats 1000000 in
set_option maxRecDepth 100000 in
theorem r44_69 (h : RAt b base s v w) (hs : s.Ok 15) : Calls Tryz.prog 44 #[.pointer (some ⟨b, 0, none⟩), .int .u8 69] w (RRan b base (runE (dialG 2 69) s) v w) := by
  have H := hid h
  have G := hid (Steps.refl b v w)
  have HS := hid hs
  have HO : Hid (s.O.length ≤ 40) := hid hs.O
  have HU : Hid (runE (dialG 2 69) s = bendE 3 5 7 (s.whole 1)) := hid (rfl)
  clear h hs
  go_enter Tryz.func44, Tryz.ntmps44
  go_wp2_with fail
  go_at_call 27
  refine (has_scream69 _).mono ?_
  rintro e w0 ⟨rfl, rfl⟩
  go_wp2_with fail
  go_at_call 41
  refine (rwhole 1 (by decide) H.out HS.out).mono ?_
  have HS2 := hid (St.Ok.whole HS.out (k := 1) (by decide))
  rintro e w1 ⟨rfl, v1, k, g⟩
  replace H := hid k
  replace G := hid (G.out.trans g)
  clear k g
  generalize hq1 : s.whole 1 = s1 at *
  clear hq1 HS HO
  have HS := HS2
  clear HS2
  have HO : Hid (s1.O.length ≤ 40) := hid HS.out.O
  go_wp2_with fail
  go_at_call 58
  refine (rbend H.out (by have := HO.out; (try simp only [St.ask_len]); omega) 3 5 7).mono ?_
  rintro e w2 ⟨rfl, v2, k, g⟩
  replace H := hid k
  replace G := hid (G.out.trans g)
  clear k g
  go_wp2
  go_end0
  rw [HU.out]
  exact ⟨rfl, _, H.out, G.out⟩
set_option maxHeartbeats 1000000 in
set_option maxRecDepth 100000 in
theorem r44_70 (h : RAt b base s v w) (hs : s.Ok 15) : Calls Tryz.prog 44 #[.pointer (some ⟨b, 0, none⟩), .int .u8 70] w (RRan b base (runE (dialG 2 70) s) v w) := by
  have H := hid h
  have G := hid (Steps.refl b v w)
  have HS := hid hs
  have HO : Hid (s.O.length ≤ 40) := hid hs.O
  have HU : Hid (runE (dialG 2 70) s = bendE 2 4 6 (s.whole 1)) := hid (rfl)
  clear h hs
  go_enter Tryz.func44, Tryz.ntmps44
  go_wp2_with fail
  go_at_call 27
  refine (has_scream70 _).mono ?_
  rintro e w0 ⟨rfl, rfl⟩
  go_wp2_with fail
  go_at_call 41
  refine (rwhole 1 (by decide) H.out HS.out).mono ?_
  have HS2 := hid (St.Ok.whole HS.out (k := 1) (by decide))
  rintro e w1 ⟨rfl, v1, k, g⟩
  replace H := hid k
  replace G := hid (G.out.trans g)
  clear k g
  generalize hq1 : s.whole 1 = s1 at *
  clear hq1 HS HO
  have HS := HS2
  clear HS2
  have HO : Hid (s1.O.length ≤ 40) := hid HS.out.O
  go_wp2_with fail
  go_at_call 58
  refine (rbend H.out (by have := HO.out; (try simp only [St.ask_len]); omega) 2 4 6).mono ?_
  rintro e w2 ⟨rfl, v2, k, g⟩
  replace H := hid k
  replace G := hid (G.out.trans g)
  clear k g
  go_wp2
  go_end0
  rw [HU.out]
  exact ⟨rfl, _, H.out, G.out⟩
set_option maxHeartbeats 1000000 in
set_option maxRecDepth 100000 in
theorem r44_71 (h : RAt b base s v w) (hs : s.Ok 15) : Calls Tryz.prog 44 #[.pointer (some ⟨b, 0, none⟩), .int .u8 71] w (RRan b base (runE (dialG 2 71) s) v w) := by
  have H := hid h
  have G := hid (Steps.refl b v w)
  have HS := hid hs
  have HO : Hid (s.O.length ≤ 40) := hid hs.O
  have HU : Hid (runE (dialG 2 71) s = (s.whole 2).ask 8 (s.whole 2).p 0) := hid (rfl)
  clear h hs
  have cp : w.cell? ⟨b, 26, none⟩ = some (.int .i64 s.p) := H.out.cp
  go_enter Tryz.func44, Tryz.ntmps44
  go_wp2_with fail
  go_at_call 27
  refine (has_scream71 _).mono ?_
  rintro e w0 ⟨rfl, rfl⟩
  go_wp2_with fail
  go_at_call 41
  refine (rwhole 2 (by decide) H.out HS.out).mono ?_
  have HS2 := hid (St.Ok.whole HS.out (k := 2) (by decide))
  rintro e w1 ⟨rfl, v1, k, g⟩
  replace H := hid k
  replace G := hid (G.out.trans g)
  clear k g
  generalize hq1 : s.whole 2 = s1 at *
  clear hq1 HS HO cp
  have HS := HS2
  clear HS2
  have HO : Hid (s1.O.length ≤ 40) := hid HS.out.O
  have cp : w1.cell? ⟨b, 26, none⟩ = some (.int .i64 s1.p) := H.out.cp
  go_wp2_with fail
  go_at_call 39
  refine (rop _ _ _ H.out (by have := HO.out; (try simp only [St.ask_len]); omega)).mono ?_
  rintro e w2 ⟨rfl, v2, k, g⟩
  replace H := hid k
  replace G := hid (G.out.trans g)
  clear k g
  go_wp2
  go_end0
  rw [HU.out]
  exact ⟨rfl, _, H.out, G.out⟩
set_option maxHeartbeats 1000000 in
set_option maxRecDepth 100000 in
theorem r44_72 (h : RAt b base s v w) (hs : s.Ok 15) : Calls Tryz.prog 44 #[.pointer (some ⟨b, 0, none⟩), .int .u8 72] w (RRan b base (runE (dialG 2 72) s) v w) := by
  have H := hid h
  have G := hid (Steps.refl b v w)
  have HS := hid hs
  have HO : Hid (s.O.length ≤ 40) := hid hs.O
  have HU : Hid (runE (dialG 2 72) s = (s.halves 3).ask 9 (s.halves 3).h (s.halves 3).l) := hid (rfl)
  clear h hs
  have ch : w.cell? ⟨b, 27, none⟩ = some (.int .i64 s.h) := H.out.ch
  have cl : w.cell? ⟨b, 28, none⟩ = some (.int .i64 s.l) := H.out.cl
  go_enter Tryz.func44, Tryz.ntmps44
  go_wp2_with fail
  go_at_call 27
  refine (has_scream72 _).mono ?_
  rintro e w0 ⟨rfl, rfl⟩
  go_wp2_with fail
  go_at_call 42
  refine (rhalves 3 (by decide) H.out HS.out).mono ?_
  have HS2 := hid (St.Ok.halves HS.out (k := 3) (by decide))
  rintro e w1 ⟨rfl, v1, k, g⟩
  replace H := hid k
  replace G := hid (G.out.trans g)
  clear k g
  generalize hq1 : s.halves 3 = s1 at *
  clear hq1 HS HO ch cl
  have HS := HS2
  clear HS2
  have HO : Hid (s1.O.length ≤ 40) := hid HS.out.O
  have ch : w1.cell? ⟨b, 27, none⟩ = some (.int .i64 s1.h) := H.out.ch
  have cl : w1.cell? ⟨b, 28, none⟩ = some (.int .i64 s1.l) := H.out.cl
  go_wp2
  go_still_tail 9, (by kernel_rfl)
  change wpList _ _ _ _ _ w1.drew
  replace H := hid H.out.drew
  go_wp2_with fail
  go_at_call 39
  refine (rop _ _ _ H.out (by have := HO.out; (try simp only [St.ask_len]); omega)).mono ?_
  rintro e w2 ⟨rfl, v2, k, g⟩
  replace H := hid k
  replace G := hid (G.out.trans g.drewl)
  clear k g
  go_wp2
  go_end0
  rw [HU.out]
  exact ⟨rfl, _, H.out, G.out⟩
set_option maxHeartbeats 1000000 in
set_option maxRecDepth 100000 in
theorem r44_73 (h : RAt b base s v w) (hs : s.Ok 15) : Calls Tryz.prog 44 #[.pointer (some ⟨b, 0, none⟩), .int .u8 73] w (RRan b base (runE (dialG 2 73) s) v w) := by
  have H := hid h
  have G := hid (Steps.refl b v w)
  have HS := hid hs
  have HO : Hid (s.O.length ≤ 40) := hid hs.O
  have HU : Hid (runE (dialG 2 73) s = (s.whole 1).ask 20 ((s.whole 1).h + 1) ((s.whole 1).l + 1)) := hid (rfl)
  clear h hs
  have ch : w.cell? ⟨b, 27, none⟩ = some (.int .i64 s.h) := H.out.ch
  have cl : w.cell? ⟨b, 28, none⟩ = some (.int .i64 s.l) := H.out.cl
  obtain ⟨h0, h1⟩ : 0 ≤ s.h ∧ s.h ≤ 15 := HS.out.h
  obtain ⟨l0, l1⟩ : 0 ≤ s.l ∧ s.l ≤ 15 := HS.out.l
  go_enter Tryz.func44, Tryz.ntmps44
  go_wp2_with fail
  go_at_call 27
  refine (has_scream73 _).mono ?_
  rintro e w0 ⟨rfl, rfl⟩
  go_wp2_with fail
  go_at_call 41
  refine (rwhole 1 (by decide) H.out HS.out).mono ?_
  have HS2 := hid (St.Ok.whole HS.out (k := 1) (by decide))
  rintro e w1 ⟨rfl, v1, k, g⟩
  replace H := hid k
  replace G := hid (G.out.trans g)
  clear k g
  generalize hq1 : s.whole 1 = s1 at *
  clear hq1 HS HO ch h0 h1 cl l0 l1
  have HS := HS2
  clear HS2
  have HO : Hid (s1.O.length ≤ 40) := hid HS.out.O
  have ch : w1.cell? ⟨b, 27, none⟩ = some (.int .i64 s1.h) := H.out.ch
  have cl : w1.cell? ⟨b, 28, none⟩ = some (.int .i64 s1.l) := H.out.cl
  obtain ⟨h0, h1⟩ : 0 ≤ s1.h ∧ s1.h ≤ 15 := HS.out.h
  obtain ⟨l0, l1⟩ : 0 ≤ s1.l ∧ s1.l ≤ 15 := HS.out.l
  go_wp2
  go_still_tail 11, (by kernel_rfl)
  change wpList _ _ _ _ _ w1.drew
  replace H := hid H.out.drew
  go_wp2_with fail
  go_at_call 39
  refine (rop _ _ _ H.out (by have := HO.out; (try simp only [St.ask_len]); omega)).mono ?_
  rintro e w2 ⟨rfl, v2, k, g⟩
  replace H := hid k
  replace G := hid (G.out.trans g.drewl)
  clear k g
  go_wp2
  go_end0
  rw [HU.out]
  exact ⟨rfl, _, H.out, G.out⟩
set_option maxHeartbeats 1000000 in
set_option maxRecDepth 100000 in
theorem r44_74 (h : RAt b base s v w) (hs : s.Ok 15) : Calls Tryz.prog 44 #[.pointer (some ⟨b, 0, none⟩), .int .u8 74] w (RRan b base (runE (dialG 2 74) s) v w) := by
  have H := hid h
  have G := hid (Steps.refl b v w)
  have HS := hid hs
  have HO : Hid (s.O.length ≤ 40) := hid hs.O
  have HU : Hid (runE (dialG 2 74) s = (s.whole 1).ask 1 (s.whole 1).h (s.whole 1).l) := hid (rfl)
  clear h hs
  have ch : w.cell? ⟨b, 27, none⟩ = some (.int .i64 s.h) := H.out.ch
  have cl : w.cell? ⟨b, 28, none⟩ = some (.int .i64 s.l) := H.out.cl
  go_enter Tryz.func44, Tryz.ntmps44
  go_wp2_with fail
  go_at_call 27
  refine (has_scream74 _).mono ?_
  rintro e w0 ⟨rfl, rfl⟩
  go_wp2_with fail
  go_at_call 41
  refine (rwhole 1 (by decide) H.out HS.out).mono ?_
  have HS2 := hid (St.Ok.whole HS.out (k := 1) (by decide))
  rintro e w1 ⟨rfl, v1, k, g⟩
  replace H := hid k
  replace G := hid (G.out.trans g)
  clear k g
  generalize hq1 : s.whole 1 = s1 at *
  clear hq1 HS HO ch cl
  have HS := HS2
  clear HS2
  have HO : Hid (s1.O.length ≤ 40) := hid HS.out.O
  have ch : w1.cell? ⟨b, 27, none⟩ = some (.int .i64 s1.h) := H.out.ch
  have cl : w1.cell? ⟨b, 28, none⟩ = some (.int .i64 s1.l) := H.out.cl
  go_wp2
  go_still_tail 9, (by kernel_rfl)
  change wpList _ _ _ _ _ w1.drew
  replace H := hid H.out.drew
  go_wp2_with fail
  go_at_call 39
  refine (rop _ _ _ H.out (by have := HO.out; (try simp only [St.ask_len]); omega)).mono ?_
  rintro e w2 ⟨rfl, v2, k, g⟩
  replace H := hid k
  replace G := hid (G.out.trans g.drewl)
  clear k g
  go_wp2
  go_end0
  rw [HU.out]
  exact ⟨rfl, _, H.out, G.out⟩
set_option maxHeartbeats 1000000 in
set_option maxRecDepth 100000 in
theorem r44_75 (h : RAt b base s v w) (hs : s.Ok 15) : Calls Tryz.prog 44 #[.pointer (some ⟨b, 0, none⟩), .int .u8 75] w (RRan b base (runE (dialG 2 75) s) v w) := by
  have H := hid h
  have G := hid (Steps.refl b v w)
  have HS := hid hs
  have HO : Hid (s.O.length ≤ 40) := hid hs.O
  have HU : Hid (runE (dialG 2 75) s = slideE ((s.whole 1).ask 9 ((s.whole 1).slot 3 / 16) ((s.whole 1).slot 3 % 16))) := hid (rfl)
  clear h hs
  have c3 : w.cell? ⟨b, 3, none⟩ = some (.int .i64 (s.slot 3)) := H.out.cM (by decide)
  obtain ⟨s30, s31⟩ : 0 ≤ s.slot 3 ∧ s.slot 3 ≤ 255 := HS.out.slots 3 (by decide)
  go_enter Tryz.func44, Tryz.ntmps44
  go_wp2_with fail
  go_at_call 27
  refine (has_scream75 _).mono ?_
  rintro e w0 ⟨rfl, rfl⟩
  go_wp2_with fail
  go_at_call 41
  refine (rwhole 1 (by decide) H.out HS.out).mono ?_
  have HS2 := hid (St.Ok.whole HS.out (k := 1) (by decide))
  rintro e w1 ⟨rfl, v1, k, g⟩
  replace H := hid k
  replace G := hid (G.out.trans g)
  clear k g
  generalize hq1 : s.whole 1 = s1 at *
  clear hq1 HS HO c3 s30 s31
  have HS := HS2
  clear HS2
  have HO : Hid (s1.O.length ≤ 40) := hid HS.out.O
  have c3 : w1.cell? ⟨b, 3, none⟩ = some (.int .i64 (s1.slot 3)) := H.out.cM (by decide)
  obtain ⟨s30, s31⟩ : 0 ≤ s1.slot 3 ∧ s1.slot 3 ≤ 255 := HS.out.slots 3 (by decide)
  go_wp2
  go_still_tail 15, (by kernel_rfl)
  change wpList _ _ _ _ _ w1.drew
  replace H := hid H.out.drew
  go_wp2_with fail
  go_at_call 39
  refine (rop _ _ _ H.out (by have := HO.out; (try simp only [St.ask_len]); omega)).mono ?_
  rintro e w2 ⟨rfl, v2, k, g⟩
  replace H := hid k
  replace G := hid (G.out.trans g.drewl)
  clear k g
  have c3 : w2.cell? ⟨b, 3, none⟩ = some (.int .i64 (s1.slot 3)) := H.out.cM (by decide)
  go_wp2_with fail
  go_at_call 57
  refine (rslide H.out (by have := HO.out; (try simp only [St.ask_len]); omega)).mono ?_
  rintro e w3 ⟨rfl, v3, k, g⟩
  replace H := hid k
  replace G := hid (G.out.trans g)
  clear k g
  go_wp2
  go_end0
  rw [HU.out]
  exact ⟨rfl, _, H.out, G.out⟩
set_option maxHeartbeats 1000000 in
set_option maxRecDepth 100000 in
theorem r44_76 (h : RAt b base s v w) (hs : s.Ok 15) : Calls Tryz.prog 44 #[.pointer (some ⟨b, 0, none⟩), .int .u8 76] w (RRan b base (runE (dialG 2 76) s) v w) := by
  have H := hid h
  have G := hid (Steps.refl b v w)
  have HS := hid hs
  have HO : Hid (s.O.length ≤ 40) := hid hs.O
  have HU : Hid (runE (dialG 2 76) s = slideE ((s.whole 1).ask 8 ((s.whole 1).slot 2) 0)) := hid (rfl)
  clear h hs
  have c2 : w.cell? ⟨b, 2, none⟩ = some (.int .i64 (s.slot 2)) := H.out.cM (by decide)
  go_enter Tryz.func44, Tryz.ntmps44
  go_wp2_with fail
  go_at_call 27
  refine (has_scream76 _).mono ?_
  rintro e w0 ⟨rfl, rfl⟩
  go_wp2_with fail
  go_at_call 41
  refine (rwhole 1 (by decide) H.out HS.out).mono ?_
  have HS2 := hid (St.Ok.whole HS.out (k := 1) (by decide))
  rintro e w1 ⟨rfl, v1, k, g⟩
  replace H := hid k
  replace G := hid (G.out.trans g)
  clear k g
  generalize hq1 : s.whole 1 = s1 at *
  clear hq1 HS HO c2
  have HS := HS2
  clear HS2
  have HO : Hid (s1.O.length ≤ 40) := hid HS.out.O
  have c2 : w1.cell? ⟨b, 2, none⟩ = some (.int .i64 (s1.slot 2)) := H.out.cM (by decide)
  go_wp2_with fail
  go_at_call 39
  refine (rop _ _ _ H.out (by have := HO.out; (try simp only [St.ask_len]); omega)).mono ?_
  rintro e w2 ⟨rfl, v2, k, g⟩
  replace H := hid k
  replace G := hid (G.out.trans g)
  clear k g
  have c2 : w2.cell? ⟨b, 2, none⟩ = some (.int .i64 (s1.slot 2)) := H.out.cM (by decide)
  go_wp2_with fail
  go_at_call 57
  refine (rslide H.out (by have := HO.out; (try simp only [St.ask_len]); omega)).mono ?_
  rintro e w3 ⟨rfl, v3, k, g⟩
  replace H := hid k
  replace G := hid (G.out.trans g)
  clear k g
  go_wp2
  go_end0
  rw [HU.out]
  exact ⟨rfl, _, H.out, G.out⟩
set_option maxHeartbeats 1000000 in
set_option maxRecDepth 100000 in
theorem r44_79 (h : RAt b base s v w) (hs : s.Ok 15) : Calls Tryz.prog 44 #[.pointer (some ⟨b, 0, none⟩), .int .u8 79] w (RRan b base (runE (dialG 2 79) s) v w) := by
  have H := hid h
  have G := hid (Steps.refl b v w)
  have HS := hid hs
  have HO : Hid (s.O.length ≤ 40) := hid hs.O
  have HU : Hid (runE (dialG 2 79) s = (s.whole 4).ask 18 (256 * (s.whole 4).p) 0) := hid (rfl)
  clear h hs
  have cp : w.cell? ⟨b, 26, none⟩ = some (.int .i64 s.p) := H.out.cp
  obtain ⟨p0, p1⟩ : 0 ≤ s.p ∧ s.p ≤ 255 := HS.out.p
  go_enter Tryz.func44, Tryz.ntmps44
  go_wp2_with fail
  go_at_call 27
  refine (has_scream79 _).mono ?_
  rintro e w0 ⟨rfl, rfl⟩
  go_wp2_with fail
  go_at_call 41
  refine (rwhole 4 (by decide) H.out HS.out).mono ?_
  have HS2 := hid (St.Ok.whole HS.out (k := 4) (by decide))
  rintro e w1 ⟨rfl, v1, k, g⟩
  replace H := hid k
  replace G := hid (G.out.trans g)
  clear k g
  generalize hq1 : s.whole 4 = s1 at *
  clear hq1 HS HO cp p0 p1
  have HS := HS2
  clear HS2
  have HO : Hid (s1.O.length ≤ 40) := hid HS.out.O
  have cp : w1.cell? ⟨b, 26, none⟩ = some (.int .i64 s1.p) := H.out.cp
  obtain ⟨p0, p1⟩ : 0 ≤ s1.p ∧ s1.p ≤ 255 := HS.out.p
  go_wp2_with fail
  go_at_call 39
  refine (rop _ _ _ H.out (by have := HO.out; (try simp only [St.ask_len]); omega)).mono ?_
  rintro e w2 ⟨rfl, v2, k, g⟩
  replace H := hid k
  replace G := hid (G.out.trans g)
  clear k g
  go_wp2
  go_end0
  rw [HU.out]
  exact ⟨rfl, _, H.out, G.out⟩
set_option maxHeartbeats 1000000 in
set_option maxRecDepth 100000 in
theorem r44_81 (h : RAt b base s v w) (hs : s.Ok 15) : Calls Tryz.prog 44 #[.pointer (some ⟨b, 0, none⟩), .int .u8 81] w (RRan b base (runE (dialG 2 81) s) v w) := by
  have H := hid h
  have G := hid (Steps.refl b v w)
  have HS := hid hs
  have HO : Hid (s.O.length ≤ 40) := hid hs.O
  have HU : Hid (runE (dialG 2 81) s = (s.whole 1).ask 19 (s.whole 1).l (s.whole 1).h) := hid (rfl)
  clear h hs
  have ch : w.cell? ⟨b, 27, none⟩ = some (.int .i64 s.h) := H.out.ch
  have cl : w.cell? ⟨b, 28, none⟩ = some (.int .i64 s.l) := H.out.cl
  go_enter Tryz.func44, Tryz.ntmps44
  go_wp2_with fail
  go_at_call 27
  refine (has_scream81 _).mono ?_
  rintro e w0 ⟨rfl, rfl⟩
  go_wp2_with fail
  go_at_call 41
  refine (rwhole 1 (by decide) H.out HS.out).mono ?_
  have HS2 := hid (St.Ok.whole HS.out (k := 1) (by decide))
  rintro e w1 ⟨rfl, v1, k, g⟩
  replace H := hid k
  replace G := hid (G.out.trans g)
  clear k g
  generalize hq1 : s.whole 1 = s1 at *
  clear hq1 HS HO ch cl
  have HS := HS2
  clear HS2
  have HO : Hid (s1.O.length ≤ 40) := hid HS.out.O
  have ch : w1.cell? ⟨b, 27, none⟩ = some (.int .i64 s1.h) := H.out.ch
  have cl : w1.cell? ⟨b, 28, none⟩ = some (.int .i64 s1.l) := H.out.cl
  go_wp2
  go_still_tail 9, (by kernel_rfl)
  change wpList _ _ _ _ _ w1.drew
  replace H := hid H.out.drew
  go_wp2_with fail
  go_at_call 39
  refine (rop _ _ _ H.out (by have := HO.out; (try simp only [St.ask_len]); omega)).mono ?_
  rintro e w2 ⟨rfl, v2, k, g⟩
  replace H := hid k
  replace G := hid (G.out.trans g.drewl)
  clear k g
  go_wp2
  go_end0
  rw [HU.out]
  exact ⟨rfl, _, H.out, G.out⟩
set_option maxHeartbeats 1000000 in
set_option maxRecDepth 100000 in
theorem r44_82 (h : RAt b base s v w) (hs : s.Ok 15) : Calls Tryz.prog 44 #[.pointer (some ⟨b, 0, none⟩), .int .u8 82] w (RRan b base (runE (dialG 2 82) s) v w) := by
  have H := hid h
  have G := hid (Steps.refl b v w)
  have HS := hid hs
  have HO : Hid (s.O.length ≤ 40) := hid hs.O
  have HU : Hid (runE (dialG 2 82) s = (s.whole 1).ask 11 (s.whole 1).h (s.whole 1).l) := hid (rfl)
  clear h hs
  have ch : w.cell? ⟨b, 27, none⟩ = some (.int .i64 s.h) := H.out.ch
  have cl : w.cell? ⟨b, 28, none⟩ = some (.int .i64 s.l) := H.out.cl
  go_enter Tryz.func44, Tryz.ntmps44
  go_wp2_with fail
  go_at_call 27
  refine (has_scream82 _).mono ?_
  rintro e w0 ⟨rfl, rfl⟩
  go_wp2_with fail
  go_at_call 41
  refine (rwhole 1 (by decide) H.out HS.out).mono ?_
  have HS2 := hid (St.Ok.whole HS.out (k := 1) (by decide))
  rintro e w1 ⟨rfl, v1, k, g⟩
  replace H := hid k
  replace G := hid (G.out.trans g)
  clear k g
  generalize hq1 : s.whole 1 = s1 at *
  clear hq1 HS HO ch cl
  have HS := HS2
  clear HS2
  have HO : Hid (s1.O.length ≤ 40) := hid HS.out.O
  have ch : w1.cell? ⟨b, 27, none⟩ = some (.int .i64 s1.h) := H.out.ch
  have cl : w1.cell? ⟨b, 28, none⟩ = some (.int .i64 s1.l) := H.out.cl
  go_wp2
  go_still_tail 9, (by kernel_rfl)
  change wpList _ _ _ _ _ w1.drew
  replace H := hid H.out.drew
  go_wp2_with fail
  go_at_call 39
  refine (rop _ _ _ H.out (by have := HO.out; (try simp only [St.ask_len]); omega)).mono ?_
  rintro e w2 ⟨rfl, v2, k, g⟩
  replace H := hid k
  replace G := hid (G.out.trans g.drewl)
  clear k g
  go_wp2
  go_end0
  rw [HU.out]
  exact ⟨rfl, _, H.out, G.out⟩
theorem scrS_other {x : Int} (h1 : x ≠ 1) (h2 : x ≠ 2) (h3 : x ≠ 3) (h4 : x ≠ 4) (h8 : x ≠ 8) : screamS x = timedE 11 x := by
  unfold screamS upd
  rw [if_neg h8, if_neg h4, if_neg h3, if_neg h2, if_neg h1]
set_option maxHeartbeats 1000000 in
set_option maxRecDepth 100000 in
theorem r44_83 (h : RAt b base s v w) (hs : s.Ok 15) : Calls Tryz.prog 44 #[.pointer (some ⟨b, 0, none⟩), .int .u8 83] w (RRan b base (runE (dialG 2 83) s) v w) := by
  have H := hid h
  have G := hid (Steps.refl b v w)
  have HS := hid hs
  have HO : Hid (s.O.length ≤ 40) := hid hs.O
  have HU : Hid (runE (dialG 2 83) s = runE (screamS (s.whole 1).h) (s.whole 1)) := hid (rfl)
  clear h hs
  have ch : w.cell? ⟨b, 27, none⟩ = some (.int .i64 s.h) := H.out.ch
  have cl : w.cell? ⟨b, 28, none⟩ = some (.int .i64 s.l) := H.out.cl
  obtain ⟨h0, h1⟩ : 0 ≤ s.h ∧ s.h ≤ 15 := HS.out.h
  obtain ⟨l0, l1⟩ : 0 ≤ s.l ∧ s.l ≤ 15 := HS.out.l
  go_enter Tryz.func44, Tryz.ntmps44
  go_wp2_with fail
  go_at_call 27
  refine (has_scream83 _).mono ?_
  rintro e w0 ⟨rfl, rfl⟩
  go_wp2_with fail
  go_at_call 41
  refine (rwhole 1 (by decide) H.out HS.out).mono ?_
  have HS2 := hid (St.Ok.whole HS.out (k := 1) (by decide))
  rintro e w1 ⟨rfl, v1, k, g⟩
  replace H := hid k
  replace G := hid (G.out.trans g)
  clear k g
  generalize hq1 : s.whole 1 = s1 at *
  clear hq1 HS HO ch h0 h1 cl l0 l1
  have HS := HS2
  clear HS2
  have HO : Hid (s1.O.length ≤ 40) := hid HS.out.O
  have ch : w1.cell? ⟨b, 27, none⟩ = some (.int .i64 s1.h) := H.out.ch
  have cl : w1.cell? ⟨b, 28, none⟩ = some (.int .i64 s1.l) := H.out.cl
  obtain ⟨h0, h1⟩ : 0 ≤ s1.h ∧ s1.h ≤ 15 := HS.out.h
  obtain ⟨l0, l1⟩ : 0 ≤ s1.l ∧ s1.l ≤ 15 := HS.out.l
  have hb := And.intro HS.out.h (And.intro HS.out.l HS.out.p)
  have hc : (s1.h = 1 ∧ 1 < s1.l) ∨ (s1.h = 1 ∧ s1.l ≤ 1) ∨ (s1.h = 2) ∨ (s1.h = 3) ∨ (s1.h = 4) ∨ (s1.h = 8) ∨ (s1.h ≠ 1 ∧ s1.h ≠ 2 ∧ s1.h ≠ 3 ∧ s1.h ≠ 4 ∧ s1.h ≠ 8) := by omega
  rcases hc with hc | hc | hc | hc | hc | hc | hc
  · have Eh : Hid (s1.h = 1) := hid (by omega)
    have f6 : 1 < s1.l := by omega
    clear ch
    have ch : w1.cell? ⟨b, 27, none⟩ = some (.int .i64 1) := H.out.ch.trans (congrArg (fun z => some (Value.int .i64 z)) Eh.out)
    have HL : Hid ((runE (screamS s1.h) s1) = (runE (timedE 11 (s1.ask 24 1 0).h) (s1.ask 24 1 0))) := hid (by show runE (screamS s1.h) s1 = runE (timedE 11 s1.h) (s1.ask 24 1 0); rw [hc.1]; show s1.ask 24 (min s1.l 1) 0 = s1.ask 24 1 0; congr 1; omega)
    clear hc hb
    go_wp2_with fail
    go_at_call 39
    refine (rop _ _ _ H.out (by have := HO.out; (try simp only [St.ask_len]); omega)).mono ?_
    rintro e w2 ⟨rfl, v2, k, g⟩
    replace H := hid k
    replace G := hid (G.out.trans g)
    clear k g
    have ch : w2.cell? ⟨b, 27, none⟩ = some (.int .i64 1) := H.out.ch.trans (congrArg (fun z => some (Value.int .i64 z)) Eh.out)
    have cl : w2.cell? ⟨b, 28, none⟩ = some (.int .i64 s1.l) := H.out.cl
    go_wp2_with fail
    go_at_call 59
    refine (rrows H.out (by have := HO.out; (try simp only [St.ask_len]); omega)).mono ?_
    rintro e w3 ⟨rfl, v3, k, g⟩
    replace H := hid k
    replace G := hid (G.out.trans g)
    clear k g
    go_wp2
    go_end0
    rw [HU.out, HL.out]
    exact ⟨rfl, _, H.out, G.out⟩
  · have Eh : Hid (s1.h = 1) := hid (by omega)
    have f7 : ¬ 1 < s1.l := by omega
    clear ch
    have ch : w1.cell? ⟨b, 27, none⟩ = some (.int .i64 1) := H.out.ch.trans (congrArg (fun z => some (Value.int .i64 z)) Eh.out)
    have HL : Hid ((runE (screamS s1.h) s1) = (runE (timedE 11 (s1.ask 24 s1.l 0).h) (s1.ask 24 s1.l 0))) := hid (by show runE (screamS s1.h) s1 = runE (timedE 11 s1.h) (s1.ask 24 s1.l 0); rw [hc.1]; show s1.ask 24 (min s1.l 1) 0 = s1.ask 24 s1.l 0; congr 1; omega)
    clear hc hb
    go_wp2_with fail
    go_at_call 39
    refine (rop _ _ _ H.out (by have := HO.out; (try simp only [St.ask_len]); omega)).mono ?_
    rintro e w2 ⟨rfl, v2, k, g⟩
    replace H := hid k
    replace G := hid (G.out.trans g)
    clear k g
    have ch : w2.cell? ⟨b, 27, none⟩ = some (.int .i64 1) := H.out.ch.trans (congrArg (fun z => some (Value.int .i64 z)) Eh.out)
    have cl : w2.cell? ⟨b, 28, none⟩ = some (.int .i64 s1.l) := H.out.cl
    go_wp2_with fail
    go_at_call 59
    refine (rrows H.out (by have := HO.out; (try simp only [St.ask_len]); omega)).mono ?_
    rintro e w3 ⟨rfl, v3, k, g⟩
    replace H := hid k
    replace G := hid (G.out.trans g)
    clear k g
    go_wp2
    go_end0
    rw [HU.out, HL.out]
    exact ⟨rfl, _, H.out, G.out⟩
  · have Eh : Hid (s1.h = 2) := hid (by omega)
    clear ch
    have ch : w1.cell? ⟨b, 27, none⟩ = some (.int .i64 2) := H.out.ch.trans (congrArg (fun z => some (Value.int .i64 z)) Eh.out)
    have HL : Hid ((runE (screamS s1.h) s1) = (runE (timedE 11 (s1.ask 27 (8 * (s1.l - 8)) 0).h) (s1.ask 27 (8 * (s1.l - 8)) 0))) := hid (by show runE (screamS s1.h) s1 = runE (timedE 11 s1.h) (s1.ask 27 (8 * (s1.l - 8)) 0); rw [hc]; rfl)
    clear hc hb
    go_wp2_with fail
    go_at_call 39
    refine (rop _ _ _ H.out (by have := HO.out; (try simp only [St.ask_len]); omega)).mono ?_
    rintro e w2 ⟨rfl, v2, k, g⟩
    replace H := hid k
    replace G := hid (G.out.trans g)
    clear k g
    have ch : w2.cell? ⟨b, 27, none⟩ = some (.int .i64 2) := H.out.ch.trans (congrArg (fun z => some (Value.int .i64 z)) Eh.out)
    have cl : w2.cell? ⟨b, 28, none⟩ = some (.int .i64 s1.l) := H.out.cl
    go_wp2_with fail
    go_at_call 59
    refine (rrows H.out (by have := HO.out; (try simp only [St.ask_len]); omega)).mono ?_
    rintro e w3 ⟨rfl, v3, k, g⟩
    replace H := hid k
    replace G := hid (G.out.trans g)
    clear k g
    go_wp2
    go_end0
    rw [HU.out, HL.out]
    exact ⟨rfl, _, H.out, G.out⟩
  · have Eh : Hid (s1.h = 3) := hid (by omega)
    clear ch
    have ch : w1.cell? ⟨b, 27, none⟩ = some (.int .i64 3) := H.out.ch.trans (congrArg (fun z => some (Value.int .i64 z)) Eh.out)
    have HL : Hid ((runE (screamS s1.h) s1) = (runE (timedE 11 (s1.ask 25 (s1.l % 4) 0).h) (s1.ask 25 (s1.l % 4) 0))) := hid (by show runE (screamS s1.h) s1 = runE (timedE 11 s1.h) (s1.ask 25 (s1.l % 4) 0); rw [hc]; rfl)
    clear hc hb
    go_wp2_with fail
    go_at_call 39
    refine (rop _ _ _ H.out (by have := HO.out; (try simp only [St.ask_len]); omega)).mono ?_
    rintro e w2 ⟨rfl, v2, k, g⟩
    replace H := hid k
    replace G := hid (G.out.trans g)
    clear k g
    have ch : w2.cell? ⟨b, 27, none⟩ = some (.int .i64 3) := H.out.ch.trans (congrArg (fun z => some (Value.int .i64 z)) Eh.out)
    have cl : w2.cell? ⟨b, 28, none⟩ = some (.int .i64 s1.l) := H.out.cl
    go_wp2_with fail
    go_at_call 59
    refine (rrows H.out (by have := HO.out; (try simp only [St.ask_len]); omega)).mono ?_
    rintro e w3 ⟨rfl, v3, k, g⟩
    replace H := hid k
    replace G := hid (G.out.trans g)
    clear k g
    go_wp2
    go_end0
    rw [HU.out, HL.out]
    exact ⟨rfl, _, H.out, G.out⟩
  · have Eh : Hid (s1.h = 4) := hid (by omega)
    clear ch
    have ch : w1.cell? ⟨b, 27, none⟩ = some (.int .i64 4) := H.out.ch.trans (congrArg (fun z => some (Value.int .i64 z)) Eh.out)
    have HL : Hid ((runE (screamS s1.h) s1) = (runE (timedE 11 (s1.ask 26 (s1.l % 4) 0).h) (s1.ask 26 (s1.l % 4) 0))) := hid (by show runE (screamS s1.h) s1 = runE (timedE 11 s1.h) (s1.ask 26 (s1.l % 4) 0); rw [hc]; rfl)
    clear hc hb
    go_wp2_with fail
    go_at_call 39
    refine (rop _ _ _ H.out (by have := HO.out; (try simp only [St.ask_len]); omega)).mono ?_
    rintro e w2 ⟨rfl, v2, k, g⟩
    replace H := hid k
    replace G := hid (G.out.trans g)
    clear k g
    have ch : w2.cell? ⟨b, 27, none⟩ = some (.int .i64 4) := H.out.ch.trans (congrArg (fun z => some (Value.int .i64 z)) Eh.out)
    have cl : w2.cell? ⟨b, 28, none⟩ = some (.int .i64 s1.l) := H.out.cl
    go_wp2_with fail
    go_at_call 59
    refine (rrows H.out (by have := HO.out; (try simp only [St.ask_len]); omega)).mono ?_
    rintro e w3 ⟨rfl, v3, k, g⟩
    replace H := hid k
    replace G := hid (G.out.trans g)
    clear k g
    go_wp2
    go_end0
    rw [HU.out, HL.out]
    exact ⟨rfl, _, H.out, G.out⟩
  · have Eh : Hid (s1.h = 8) := hid (by omega)
    clear ch
    have ch : w1.cell? ⟨b, 27, none⟩ = some (.int .i64 8) := H.out.ch.trans (congrArg (fun z => some (Value.int .i64 z)) Eh.out)
    have HL : Hid ((runE (screamS s1.h) s1) = (runE (timedE 11 (s1.ask 16 (panV (17 * s1.l)) 0).h) (s1.ask 16 (panV (17 * s1.l)) 0))) := hid (by show runE (screamS s1.h) s1 = runE (timedE 11 s1.h) (s1.ask 16 (panV (17 * s1.l)) 0); rw [hc]; rfl)
    clear hc hb
    go_wp2_with fail
    go_at_call 54
    refine (rpan _ _ (by omega) (by omega)).mono ?_
    rintro e w0 ⟨rfl, rfl⟩
    go_wp2_with fail
    go_at_call 39
    refine (rop _ _ _ H.out (by have := HO.out; (try simp only [St.ask_len]); omega)).mono ?_
    rintro e w2 ⟨rfl, v2, k, g⟩
    replace H := hid k
    replace G := hid (G.out.trans g)
    clear k g
    have ch : w2.cell? ⟨b, 27, none⟩ = some (.int .i64 8) := H.out.ch.trans (congrArg (fun z => some (Value.int .i64 z)) Eh.out)
    have cl : w2.cell? ⟨b, 28, none⟩ = some (.int .i64 s1.l) := H.out.cl
    go_wp2_with fail
    go_at_call 59
    refine (rrows H.out (by have := HO.out; (try simp only [St.ask_len]); omega)).mono ?_
    rintro e w3 ⟨rfl, v3, k, g⟩
    replace H := hid k
    replace G := hid (G.out.trans g)
    clear k g
    go_wp2
    go_end0
    rw [HU.out, HL.out]
    exact ⟨rfl, _, H.out, G.out⟩
  · have f8 : (s1.h == 1) = false := beq_false (by omega)
    have f9 : (s1.h == 2) = false := beq_false (by omega)
    have f10 : (s1.h == 3) = false := beq_false (by omega)
    have f11 : (s1.h == 4) = false := beq_false (by omega)
    have f12 : (s1.h == 8) = false := beq_false (by omega)
    have HL : Hid ((runE (screamS s1.h) s1) = (runE (timedE 11 s1.h) s1)) := hid (by rw [scrS_other (by omega) (by omega) (by omega) (by omega) (by omega)])
    clear hc hb
    go_wp2_with fail
    go_at_call 59
    refine (rrows H.out (by have := HO.out; (try simp only [St.ask_len]); omega)).mono ?_
    rintro e w2 ⟨rfl, v2, k, g⟩
    replace H := hid k
    replace G := hid (G.out.trans g)
    clear k g
    go_wp2
    go_end0
    rw [HU.out, HL.out]
    exact ⟨rfl, _, H.out, G.out⟩
set_option maxHeartbeats 1000000 in
set_option maxRecDepth 100000 in
theorem r44_84 (h : RAt b base s v w) (hs : s.Ok 15) : Calls Tryz.prog 44 #[.pointer (some ⟨b, 0, none⟩), .int .u8 84] w (RRan b base (runE (dialG 2 84) s) v w) := by
  have H := hid h
  have G := hid (Steps.refl b v w)
  have HS := hid hs
  have HO : Hid (s.O.length ≤ 40) := hid hs.O
  have HU : Hid (runE (dialG 2 84) s = if 32 ≤ s.p then s.ask 37 s.p 0 else s) := hid (rfl)
  clear h hs
  have cp : w.cell? ⟨b, 26, none⟩ = some (.int .i64 s.p) := H.out.cp
  go_enter Tryz.func44, Tryz.ntmps44
  go_wp2_with fail
  go_at_call 27
  refine (has_scream84 _).mono ?_
  rintro e w0 ⟨rfl, rfl⟩
  have hb := And.intro HS.out.h (And.intro HS.out.l HS.out.p)
  have hc : (32 ≤ s.p) ∨ (s.p < 32) := by omega
  rcases hc with hc | hc
  · have f13 : 32 ≤ s.p := by omega
    have HL : Hid ((if 32 ≤ s.p then s.ask 37 s.p 0 else s) = (s.ask 37 s.p 0)) := hid (by (repeat' split) <;> first | rfl | (exfalso; omega))
    clear hc hb
    go_wp2_with fail
    go_at_call 39
    refine (rop _ _ _ H.out (by have := HO.out; (try simp only [St.ask_len]); omega)).mono ?_
    rintro e w1 ⟨rfl, v1, k, g⟩
    replace H := hid k
    replace G := hid (G.out.trans g)
    clear k g
    go_wp2
    go_end0
    rw [HU.out, HL.out]
    exact ⟨rfl, _, H.out, G.out⟩
  · have f14 : ¬ 32 ≤ s.p := by omega
    have HL : Hid ((if 32 ≤ s.p then s.ask 37 s.p 0 else s) = (s)) := hid (by (repeat' split) <;> first | rfl | (exfalso; omega))
    clear hc hb
    go_wp2
    go_end0
    rw [HU.out, HL.out]
    exact ⟨rfl, _, H.out, G.out⟩
set_option maxHeartbeats 1000000 in
set_option maxRecDepth 100000 in
theorem r44_85 (h : RAt b base s v w) (hs : s.Ok 15) : Calls Tryz.prog 44 #[.pointer (some ⟨b, 0, none⟩), .int .u8 85] w (RRan b base (runE (dialG 2 85) s) v w) := by
  have H := hid h
  have G := hid (Steps.refl b v w)
  have HS := hid hs
  have HO : Hid (s.O.length ≤ 40) := hid hs.O
  have HU : Hid (runE (dialG 2 85) s = (s.halves 3).ask 10 (s.halves 3).h (s.halves 3).l) := hid (rfl)
  clear h hs
  have ch : w.cell? ⟨b, 27, none⟩ = some (.int .i64 s.h) := H.out.ch
  have cl : w.cell? ⟨b, 28, none⟩ = some (.int .i64 s.l) := H.out.cl
  go_enter Tryz.func44, Tryz.ntmps44
  go_wp2_with fail
  go_at_call 27
  refine (has_scream85 _).mono ?_
  rintro e w0 ⟨rfl, rfl⟩
  go_wp2_with fail
  go_at_call 42
  refine (rhalves 3 (by decide) H.out HS.out).mono ?_
  have HS2 := hid (St.Ok.halves HS.out (k := 3) (by decide))
  rintro e w1 ⟨rfl, v1, k, g⟩
  replace H := hid k
  replace G := hid (G.out.trans g)
  clear k g
  generalize hq1 : s.halves 3 = s1 at *
  clear hq1 HS HO ch cl
  have HS := HS2
  clear HS2
  have HO : Hid (s1.O.length ≤ 40) := hid HS.out.O
  have ch : w1.cell? ⟨b, 27, none⟩ = some (.int .i64 s1.h) := H.out.ch
  have cl : w1.cell? ⟨b, 28, none⟩ = some (.int .i64 s1.l) := H.out.cl
  go_wp2
  go_still_tail 9, (by kernel_rfl)
  change wpList _ _ _ _ _ w1.drew
  replace H := hid H.out.drew
  go_wp2_with fail
  go_at_call 39
  refine (rop _ _ _ H.out (by have := HO.out; (try simp only [St.ask_len]); omega)).mono ?_
  rintro e w2 ⟨rfl, v2, k, g⟩
  replace H := hid k
  replace G := hid (G.out.trans g.drewl)
  clear k g
  go_wp2
  go_end0
  rw [HU.out]
  exact ⟨rfl, _, H.out, G.out⟩
set_option maxHeartbeats 1000000 in
set_option maxRecDepth 100000 in
theorem r44_86 (h : RAt b base s v w) (hs : s.Ok 15) : Calls Tryz.prog 44 #[.pointer (some ⟨b, 0, none⟩), .int .u8 86] w (RRan b base (runE (dialG 2 86) s) v w) := by
  have H := hid h
  have G := hid (Steps.refl b v w)
  have HS := hid hs
  have HO : Hid (s.O.length ≤ 40) := hid hs.O
  have HU : Hid (runE (dialG 2 86) s = s.ask 28 (2 * min s.p 64) 0) := hid (rfl)
  clear h hs
  have cp : w.cell? ⟨b, 26, none⟩ = some (.int .i64 s.p) := H.out.cp
  obtain ⟨p0, p1⟩ : 0 ≤ s.p ∧ s.p ≤ 255 := HS.out.p
  go_enter Tryz.func44, Tryz.ntmps44
  go_wp2_with fail
  go_at_call 27
  refine (has_scream86 _).mono ?_
  rintro e w0 ⟨rfl, rfl⟩
  have hb := And.intro HS.out.h (And.intro HS.out.l HS.out.p)
  have hc : (64 < s.p) ∨ (s.p ≤ 64) := by omega
  rcases hc with hc | hc
  · have f15 : 64 < s.p := by omega
    have HL : Hid ((s.ask 28 (2 * min s.p 64) 0) = (s.ask 28 (2 * 64) 0)) := hid (by show s.ask 28 (2 * (min s.p 64)) 0 = _; congr 1; omega)
    clear hc hb
    go_wp2_with fail
    go_at_call 39
    refine (rop _ _ _ H.out (by have := HO.out; (try simp only [St.ask_len]); omega)).mono ?_
    rintro e w1 ⟨rfl, v1, k, g⟩
    replace H := hid k
    replace G := hid (G.out.trans g)
    clear k g
    go_wp2
    go_end0
    rw [HU.out, HL.out]
    exact ⟨rfl, _, H.out, G.out⟩
  · have f16 : ¬ 64 < s.p := by omega
    have HL : Hid ((s.ask 28 (2 * min s.p 64) 0) = (s.ask 28 (2 * s.p) 0)) := hid (by show s.ask 28 (2 * (min s.p 64)) 0 = _; congr 1; omega)
    clear hc hb
    go_wp2_with fail
    go_at_call 39
    refine (rop _ _ _ H.out (by have := HO.out; (try simp only [St.ask_len]); omega)).mono ?_
    rintro e w1 ⟨rfl, v1, k, g⟩
    replace H := hid k
    replace G := hid (G.out.trans g)
    clear k g
    go_wp2
    go_end0
    rw [HU.out, HL.out]
    exact ⟨rfl, _, H.out, G.out⟩
set_option maxHeartbeats 1000000 in
set_option maxRecDepth 100000 in
theorem r44_88 (h : RAt b base s v w) (hs : s.Ok 15) : Calls Tryz.prog 44 #[.pointer (some ⟨b, 0, none⟩), .int .u8 88] w (RRan b base (runE (dialG 2 88) s) v w) := by
  have H := hid h
  have G := hid (Steps.refl b v w)
  have HS := hid hs
  have HO : Hid (s.O.length ≤ 40) := hid hs.O
  have HU : Hid (runE (dialG 2 88) s = s.ask 16 (2 * min s.p 128) 0) := hid (rfl)
  clear h hs
  have cp : w.cell? ⟨b, 26, none⟩ = some (.int .i64 s.p) := H.out.cp
  obtain ⟨p0, p1⟩ : 0 ≤ s.p ∧ s.p ≤ 255 := HS.out.p
  go_enter Tryz.func44, Tryz.ntmps44
  go_wp2_with fail
  go_at_call 27
  refine (has_scream88 _).mono ?_
  rintro e w0 ⟨rfl, rfl⟩
  have hb := And.intro HS.out.h (And.intro HS.out.l HS.out.p)
  have hc : (128 < s.p) ∨ (s.p ≤ 128) := by omega
  rcases hc with hc | hc
  · have f17 : 256 < 2 * s.p := by omega
    have HL : Hid ((s.ask 16 (2 * min s.p 128) 0) = (s.ask 16 256 0)) := hid (by congr 1; omega)
    clear hc hb
    go_wp2_with fail
    go_at_call 39
    refine (rop _ _ _ H.out (by have := HO.out; (try simp only [St.ask_len]); omega)).mono ?_
    rintro e w1 ⟨rfl, v1, k, g⟩
    replace H := hid k
    replace G := hid (G.out.trans g)
    clear k g
    go_wp2
    go_end0
    rw [HU.out, HL.out]
    exact ⟨rfl, _, H.out, G.out⟩
  · have f18 : ¬ 256 < 2 * s.p := by omega
    have HL : Hid ((s.ask 16 (2 * min s.p 128) 0) = (s.ask 16 (2 * s.p) 0)) := hid (by congr 1; omega)
    clear hc hb
    go_wp2_with fail
    go_at_call 39
    refine (rop _ _ _ H.out (by have := HO.out; (try simp only [St.ask_len]); omega)).mono ?_
    rintro e w1 ⟨rfl, v1, k, g⟩
    replace H := hid k
    replace G := hid (G.out.trans g)
    clear k g
    go_wp2
    go_end0
    rw [HU.out, HL.out]
    exact ⟨rfl, _, H.out, G.out⟩
end
end Go.Proofs.YtkpielgdfahanaaGreat
