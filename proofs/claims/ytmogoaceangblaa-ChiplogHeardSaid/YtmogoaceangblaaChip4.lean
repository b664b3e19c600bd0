/- The tone chip: what it puts out. -/
import Derived.Test.YtmogoaceangblaaChip3
namespace Go.Proofs.Ytmogoaceangblaa
open Go.RowKit

/-- The chip's numbers in their ranges: registers, counters, the envelope's step. -/
structure OkT (T : List Int) : Prop where
  len : T.length = 24
  regs : ∀ i, i < 14 → 0 ≤ T.getD i 0 ∧ T.getD i 0 ≤ 255
  cnt : ∀ i, (14 ≤ i ∧ i < 17) ∨ i = 20 ∨ i = 22 → 0 ≤ T.getD i 0 ∧ T.getD i 0 ≤ 65535
  step : 0 ≤ T.getD 23 0 ∧ T.getD 23 0 ≤ 63
def ShF (f : Int → Int → Int) : Prop := ∀ s t, 0 ≤ t → t ≤ 63 → (0 ≤ f s t ∧ f s t ≤ 31) ∧ ∀ w, Calls Try.prog 39 #[.int .i64 s, .int .i64 t] w fun e w' => e = .returned (.int .i64 (f s t)) ∧ w = w'
theorem shF_ex : ∃ f, ShF f := by
  refine ⟨fun s t => if h : 0 ≤ t ∧ t ≤ 63 then Classical.choose (shaped_ex s t h.1 h.2) else 0, fun s t h0 h1 => ?_⟩
  simp only [dif_pos (And.intro h0 h1)]
  exact Classical.choose_spec (shaped_ex s t h0 h1)
/-- Whether a voice sounds; at what level. -/
def onT (T : List Int) (c : Nat) : Bool := (T.getD (17 + c) 0 == 1 || bits .and .i64 (T.getD 7 0 / 2 ^ c) 1 == 1) && (bits .and .i64 (T.getD 21 0) 1 == 1 || bits .and .i64 (T.getD 7 0 / 2 ^ (3 + c)) 1 == 1)
def volT (f : Int → Int → Int) (T : List Int) (c : Nat) : Nat := (if bits .and .i64 (T.getD (8 + c) 0) 16 != 0 then f (T.getD 13 0 % 16) (T.getD 23 0) / 2 else T.getD (8 + c) 0 % 16).toNat
def valT (f : Int → Int → Int) (T L : List Int) : Nat → Int
  | 0 => 0
  | c + 1 => if onT T c then valT f T L c + L.getD (volT f T c) 0 else valT f T L c
theorem valT_range {f : Int → Int → Int} {T L : List Int} (hL : ∀ i, 0 ≤ L.getD i 0 ∧ L.getD i 0 ≤ 8192) (c : Nat) : 0 ≤ valT f T L c ∧ valT f T L c ≤ 8192 * c := by
  induction c with
  | zero => simp [valT]
  | succ c ih =>
    have := hL (volT f T c)
    unfold valT
    split <;> omega
set_option maxHeartbeats 8000000 in
set_option maxRecDepth 100000 in
theorem value_any (f : Int → Int → Int) (hf : ShF f) (T L : List Int) (bt bl : Nat) (w : World) (hO : OkT T) (hLl : L.length = 16) (hLr : ∀ i, 0 ≤ L.getD i 0 ∧ L.getD i 0 ≤ 8192) (ht : ToneAt w bt T) (hl : LvAt w bl L) :
    Calls Try.prog 31 #[.pointer (some ⟨bt, 0, none⟩), .pointer (some ⟨bl, 0, none⟩)] w fun e w' => e = .returned (.int .i64 (valT f T L 3)) ∧ Below w.heap.size w w' := by
  have HF := hid hf; have HO := hid hO; have HLL := hid hLl; have HLR := hid hLr; have HT := hid ht; have HL := hid hl
  clear hf hO hLl hLr ht hl
  go_enter Try.func31, Try.ntmps31
  go_wp2
  go_loopw [5, 10] (fun s i wr => ∃ k : Nat, k ≤ 3 ∧ i = .int .i64 k ∧ s = .int .i64 (valT f T L k) ∧ Hid (Below w.heap.size w wr)) (fun _ i _ => 3 - (intOf i).toNat)
  case atStart => exact ⟨0, by omega, rfl, rfl, hid (Below.refl _ _)⟩
  case round =>
    obtain ⟨k, hk, rfl, rfl, HB⟩ := hrel
    by_cases hlt : k < 3
    · have HTR : Hid (ToneAt wr bt T) := hid (HT.out.below HB.out HT.out.lt)
      have get : ∀ i, i < 24 → ∃ v, T[i]? = some v ∧ T.getD i 0 = v := fun i hi => ⟨T[i]'(by rw [HO.out.len]; exact hi), List.getElem?_eq_getElem _, by rw [List.getD, List.getElem?_eq_getElem (by rw [HO.out.len]; exact hi)]; rfl⟩
      obtain ⟨b, hb, hbg⟩ := get (17 + k) (by omega)
      obtain ⟨r7, hr7, hr7g⟩ := get 7 (by omega)
      obtain ⟨n, hn, hng⟩ := get 21 (by omega)
      obtain ⟨rv, hrv, hrvg⟩ := get (8 + k) (by omega)
      obtain ⟨r13, hr13, hr13g⟩ := get 13 (by omega)
      obtain ⟨st, hst, hstg⟩ := get 23 (by omega)
      have q7 := HO.out.regs 7 (by omega); rw [hr7g] at q7
      have qv := HO.out.regs (8 + k) (by omega); rw [hrvg] at qv
      have q13 := HO.out.regs 13 (by omega); rw [hr13g] at q13
      have qs := HO.out.step; rw [hstg] at qs
      obtain ⟨q70, q71⟩ := q7; obtain ⟨qv0, qv1⟩ := qv; obtain ⟨q130, q131⟩ := q13; obtain ⟨qs0, qs1⟩ := qs
      have HON : Hid (onT T k = ((b == 1 || bits .and .i64 (r7 / 2 ^ k) 1 == 1) && (bits .and .i64 n 1 == 1 || bits .and .i64 (r7 / 2 ^ (3 + k)) 1 == 1))) := hid (by unfold onT; rw [hbg, hr7g, hng])
      have HVO : Hid (volT f T k = (if bits .and .i64 rv 16 != 0 then f (r13 % 16) st / 2 else rv % 16).toNat) := hid (by unfold volT; rw [hrvg, hr13g, hstg])
      have hcb := HTR.out.cell hb; have hc7 := HTR.out.cell hr7; have hcn := HTR.out.cell hn; have hcv := HTR.out.cell hrv; have hc13 := HTR.out.cell hr13; have hcs := HTR.out.cell hst
      have hk0 : (0 : Int) ≤ (k : Int) := by omega
      have hk1 : (k : Int) < 3 := by omega
      have hvr := valT_range (f := f) (T := T) HLR.out k
      obtain ⟨hv0, hv1⟩ := hvr
      clear get hb hr7 hn hrv hr13 hst hbg hr7g hng hrvg hr13g hstg
      cases e1 : (b == 1) with
      | true =>
        cases e2 : (bits .and .i64 n 1 == 1) with
        | true =>
          cases e5 : (bits .and .i64 rv 16 != 0) with
          | true =>
            obtain ⟨hq, hcall⟩ := HF.out (r13 % 16) st qs0 qs1
            have HQ := hid hcall
            obtain ⟨u, hu⟩ : ∃ u, f (r13 % 16) st = u := ⟨_, rfl⟩
            rw [hu] at hq HQ HVO
            obtain ⟨hq0, hq1⟩ := hq
            have HVU : Hid (volT f T k = (u / 2).toNat) := hid (by rw [HVO.out, e5]; rfl)
            obtain ⟨m, hm⟩ : ∃ m : Nat, m = (u / 2).toNat := ⟨_, rfl⟩
            obtain ⟨x, hx⟩ : ∃ x, L[m]? = some x := ⟨_, List.getElem?_eq_getElem (by rw [HLL.out]; omega)⟩
            have hxr := HLR.out m
            have hxg : L.getD m 0 = x := by rw [List.getD, hx]; rfl
            rw [hxg] at hxr
            obtain ⟨hx0, hx1⟩ := hxr
            have HOF : Hid (valT f T L (k + 1) = valT f T L k + x) := hid (by rw [valT, HON.out, e1, e2, HVU.out, ← hm, hxg]; simp)
            have hcx : wr.cell? ⟨bl, m, none⟩ = some (.int .i64 x) := (HB.out.cell (p := ⟨bl, m, none⟩) (Array.getElem?_eq_some_iff.1 HL.out).1).trans (cell_of_cells HL.out (by simpa using icells_at hx))
            have hud : IntKind.i64.wrap (u.tdiv 2) = (m : Int) := by rw [Int.tdiv_eq_ediv_of_nonneg hq0, IntKind.wrap_i64]; omega
            have hud2 : u.tdiv 2 = (m : Int) := by rw [Int.tdiv_eq_ediv_of_nonneg hq0]; omega
            have hud3 : u / 2 = (m : Int) := by omega
            have htm : r13.tmod 16 = r13 % 16 := Int.tmod_eq_emod_of_nonneg q130
            have hm0 : (0 : Int) ≤ (m : Int) := by omega
            have hm1 : (m : Int) < 16 := by omega
            clear hu hm hx hxg
            go_wp2_with fail
            go_quiet ((go_at_call 39; exact Calls.quiet_of_same ((HQ.out _).mono fun _ _ h => ⟨h.1, h.2.symm⟩)))
            go_wp2
            go_roundw
            case rel => exact ⟨k + 1, by omega, by go_num, by rw [HOF.out], hid (below_drewN HB.out _)⟩
            case measure => simp [intOf]; omega
          | false =>
            have HVU : Hid (volT f T k = (rv % 16).toNat) := hid (by rw [HVO.out, e5]; rfl)
            obtain ⟨m, hm⟩ : ∃ m : Nat, m = (rv % 16).toNat := ⟨_, rfl⟩
            obtain ⟨x, hx⟩ : ∃ x, L[m]? = some x := ⟨_, List.getElem?_eq_getElem (by rw [HLL.out]; omega)⟩
            have hxr := HLR.out m
            have hxg : L.getD m 0 = x := by rw [List.getD, hx]; rfl
            rw [hxg] at hxr
            obtain ⟨hx0, hx1⟩ := hxr
            have HOF : Hid (valT f T L (k + 1) = valT f T L k + x) := hid (by rw [valT, HON.out, e1, e2, HVU.out, ← hm, hxg]; simp)
            have hcx : wr.cell? ⟨bl, m, none⟩ = some (.int .i64 x) := (HB.out.cell (p := ⟨bl, m, none⟩) (Array.getElem?_eq_some_iff.1 HL.out).1).trans (cell_of_cells HL.out (by simpa using icells_at hx))
            have hud3 : rv % 16 = (m : Int) := by omega
            have hm0 : (0 : Int) ≤ (m : Int) := by omega
            have hm1 : (m : Int) < 16 := by omega
            clear hm hx hxg
            go_wp2
            go_roundw
            case rel => exact ⟨k + 1, by omega, by go_num, by rw [HOF.out], HB⟩
            case measure => simp [intOf]; omega
        | false =>
          cases e4 : (bits .and .i64 (r7 / 2 ^ (3 + k)) 1 == 1) with
          | true =>
            cases e5 : (bits .and .i64 rv 16 != 0) with
            | true =>
              obtain ⟨hq, hcall⟩ := HF.out (r13 % 16) st qs0 qs1
              have HQ := hid hcall
              obtain ⟨u, hu⟩ : ∃ u, f (r13 % 16) st = u := ⟨_, rfl⟩
              rw [hu] at hq HQ HVO
              obtain ⟨hq0, hq1⟩ := hq
              have HVU : Hid (volT f T k = (u / 2).toNat) := hid (by rw [HVO.out, e5]; rfl)
              obtain ⟨m, hm⟩ : ∃ m : Nat, m = (u / 2).toNat := ⟨_, rfl⟩
              obtain ⟨x, hx⟩ : ∃ x, L[m]? = some x := ⟨_, List.getElem?_eq_getElem (by rw [HLL.out]; omega)⟩
              have hxr := HLR.out m
              have hxg : L.getD m 0 = x := by rw [List.getD, hx]; rfl
              rw [hxg] at hxr
              obtain ⟨hx0, hx1⟩ := hxr
              have HOF : Hid (valT f T L (k + 1) = valT f T L k + x) := hid (by rw [valT, HON.out, e1, e2, e4, HVU.out, ← hm, hxg]; simp)
              have hcx : wr.cell? ⟨bl, m, none⟩ = some (.int .i64 x) := (HB.out.cell (p := ⟨bl, m, none⟩) (Array.getElem?_eq_some_iff.1 HL.out).1).trans (cell_of_cells HL.out (by simpa using icells_at hx))
              have hud : IntKind.i64.wrap (u.tdiv 2) = (m : Int) := by rw [Int.tdiv_eq_ediv_of_nonneg hq0, IntKind.wrap_i64]; omega
              have hud2 : u.tdiv 2 = (m : Int) := by rw [Int.tdiv_eq_ediv_of_nonneg hq0]; omega
              have hud3 : u / 2 = (m : Int) := by omega
              have htm : r13.tmod 16 = r13 % 16 := Int.tmod_eq_emod_of_nonneg q130
              have hm0 : (0 : Int) ≤ (m : Int) := by omega
              have hm1 : (m : Int) < 16 := by omega
              clear hu hm hx hxg
              go_wp2_with fail
              go_quiet ((go_at_call 39; exact Calls.quiet_of_same ((HQ.out _).mono fun _ _ h => ⟨h.1, h.2.symm⟩)))
              go_wp2
              go_roundw
              case rel => exact ⟨k + 1, by omega, by go_num, by rw [HOF.out], hid (below_drewN HB.out _)⟩
              case measure => simp [intOf]; omega
            | false =>
              have HVU : Hid (volT f T k = (rv % 16).toNat) := hid (by rw [HVO.out, e5]; rfl)
              obtain ⟨m, hm⟩ : ∃ m : Nat, m = (rv % 16).toNat := ⟨_, rfl⟩
              obtain ⟨x, hx⟩ : ∃ x, L[m]? = some x := ⟨_, List.getElem?_eq_getElem (by rw [HLL.out]; omega)⟩
              have hxr := HLR.out m
              have hxg : L.getD m 0 = x := by rw [List.getD, hx]; rfl
              rw [hxg] at hxr
              obtain ⟨hx0, hx1⟩ := hxr
              have HOF : Hid (valT f T L (k + 1) = valT f T L k + x) := hid (by rw [valT, HON.out, e1, e2, e4, HVU.out, ← hm, hxg]; simp)
              have hcx : wr.cell? ⟨bl, m, none⟩ = some (.int .i64 x) := (HB.out.cell (p := ⟨bl, m, none⟩) (Array.getElem?_eq_some_iff.1 HL.out).1).trans (cell_of_cells HL.out (by simpa using icells_at hx))
              have hud3 : rv % 16 = (m : Int) := by omega
              have hm0 : (0 : Int) ≤ (m : Int) := by omega
              have hm1 : (m : Int) < 16 := by omega
              clear hm hx hxg
              go_wp2
              go_roundw
              case rel => exact ⟨k + 1, by omega, by go_num, by rw [HOF.out], HB⟩
              case measure => simp [intOf]; omega
          | false =>
            have HOF : Hid (valT f T L (k + 1) = valT f T L k) := hid (by rw [valT, HON.out, e1, e2, e4]; simp)
            go_wp2
            go_roundw
            case rel => exact ⟨k + 1, by omega, by go_num, by rw [HOF.out], HB⟩
            case measure => simp [intOf]; omega
      | false =>
        cases e3 : (bits .and .i64 (r7 / 2 ^ k) 1 == 1) with
        | true =>
          cases e2 : (bits .and .i64 n 1 == 1) with
          | true =>
            cases e5 : (bits .and .i64 rv 16 != 0) with
            | true =>
              obtain ⟨hq, hcall⟩ := HF.out (r13 % 16) st qs0 qs1
              have HQ := hid hcall
              obtain ⟨u, hu⟩ : ∃ u, f (r13 % 16) st = u := ⟨_, rfl⟩
              rw [hu] at hq HQ HVO
              obtain ⟨hq0, hq1⟩ := hq
              have HVU : Hid (volT f T k = (u / 2).toNat) := hid (by rw [HVO.out, e5]; rfl)
              obtain ⟨m, hm⟩ : ∃ m : Nat, m = (u / 2).toNat := ⟨_, rfl⟩
              obtain ⟨x, hx⟩ : ∃ x, L[m]? = some x := ⟨_, List.getElem?_eq_getElem (by rw [HLL.out]; omega)⟩
              have hxr := HLR.out m
              have hxg : L.getD m 0 = x := by rw [List.getD, hx]; rfl
              rw [hxg] at hxr
              obtain ⟨hx0, hx1⟩ := hxr
              have HOF : Hid (valT f T L (k + 1) = valT f T L k + x) := hid (by rw [valT, HON.out, e1, e3, e2, HVU.out, ← hm, hxg]; simp)
              have hcx : wr.cell? ⟨bl, m, none⟩ = some (.int .i64 x) := (HB.out.cell (p := ⟨bl, m, none⟩) (Array.getElem?_eq_some_iff.1 HL.out).1).trans (cell_of_cells HL.out (by simpa using icells_at hx))
              have hud : IntKind.i64.wrap (u.tdiv 2) = (m : Int) := by rw [Int.tdiv_eq_ediv_of_nonneg hq0, IntKind.wrap_i64]; omega
              have hud2 : u.tdiv 2 = (m : Int) := by rw [Int.tdiv_eq_ediv_of_nonneg hq0]; omega
              have hud3 : u / 2 = (m : Int) := by omega
              have htm : r13.tmod 16 = r13 % 16 := Int.tmod_eq_emod_of_nonneg q130
              have hm0 : (0 : Int) ≤ (m : Int) := by omega
              have hm1 : (m : Int) < 16 := by omega
              clear hu hm hx hxg
              go_wp2_with fail
              go_quiet ((go_at_call 39; exact Calls.quiet_of_same ((HQ.out _).mono fun _ _ h => ⟨h.1, h.2.symm⟩)))
              go_wp2
              go_roundw
              case rel => exact ⟨k + 1, by omega, by go_num, by rw [HOF.out], hid (below_drewN HB.out _)⟩
              case measure => simp [intOf]; omega
            | false =>
              have HVU : Hid (volT f T k = (rv % 16).toNat) := hid (by rw [HVO.out, e5]; rfl)
              obtain ⟨m, hm⟩ : ∃ m : Nat, m = (rv % 16).toNat := ⟨_, rfl⟩
              obtain ⟨x, hx⟩ : ∃ x, L[m]? = some x := ⟨_, List.getElem?_eq_getElem (by rw [HLL.out]; omega)⟩
              have hxr := HLR.out m
              have hxg : L.getD m 0 = x := by rw [List.getD, hx]; rfl
              rw [hxg] at hxr
              obtain ⟨hx0, hx1⟩ := hxr
              have HOF : Hid (valT f T L (k + 1) = valT f T L k + x) := hid (by rw [valT, HON.out, e1, e3, e2, HVU.out, ← hm, hxg]; simp)
              have hcx : wr.cell? ⟨bl, m, none⟩ = some (.int .i64 x) := (HB.out.cell (p := ⟨bl, m, none⟩) (Array.getElem?_eq_some_iff.1 HL.out).1).trans (cell_of_cells HL.out (by simpa using icells_at hx))
              have hud3 : rv % 16 = (m : Int) := by omega
              have hm0 : (0 : Int) ≤ (m : Int) := by omega
              have hm1 : (m : Int) < 16 := by omega
              clear hm hx hxg
              go_wp2
              go_roundw
              case rel => exact ⟨k + 1, by omega, by go_num, by rw [HOF.out], HB⟩
              case measure => simp [intOf]; omega
          | false =>
            cases e4 : (bits .and .i64 (r7 / 2 ^ (3 + k)) 1 == 1) with
            | true =>
              cases e5 : (bits .and .i64 rv 16 != 0) with
              | true =>
                obtain ⟨hq, hcall⟩ := HF.out (r13 % 16) st qs0 qs1
                have HQ := hid hcall
                obtain ⟨u, hu⟩ : ∃ u, f (r13 % 16) st = u := ⟨_, rfl⟩
                rw [hu] at hq HQ HVO
                obtain ⟨hq0, hq1⟩ := hq
                have HVU : Hid (volT f T k = (u / 2).toNat) := hid (by rw [HVO.out, e5]; rfl)
                obtain ⟨m, hm⟩ : ∃ m : Nat, m = (u / 2).toNat := ⟨_, rfl⟩
                obtain ⟨x, hx⟩ : ∃ x, L[m]? = some x := ⟨_, List.getElem?_eq_getElem (by rw [HLL.out]; omega)⟩
                have hxr := HLR.out m
                have hxg : L.getD m 0 = x := by rw [List.getD, hx]; rfl
                rw [hxg] at hxr
                obtain ⟨hx0, hx1⟩ := hxr
                have HOF : Hid (valT f T L (k + 1) = valT f T L k + x) := hid (by rw [valT, HON.out, e1, e3, e2, e4, HVU.out, ← hm, hxg]; simp)
                have hcx : wr.cell? ⟨bl, m, none⟩ = some (.int .i64 x) := (HB.out.cell (p := ⟨bl, m, none⟩) (Array.getElem?_eq_some_iff.1 HL.out).1).trans (cell_of_cells HL.out (by simpa using icells_at hx))
                have hud : IntKind.i64.wrap (u.tdiv 2) = (m : Int) := by rw [Int.tdiv_eq_ediv_of_nonneg hq0, IntKind.wrap_i64]; omega
                have hud2 : u.tdiv 2 = (m : Int) := by rw [Int.tdiv_eq_ediv_of_nonneg hq0]; omega
                have hud3 : u / 2 = (m : Int) := by omega
                have htm : r13.tmod 16 = r13 % 16 := Int.tmod_eq_emod_of_nonneg q130
                have hm0 : (0 : Int) ≤ (m : Int) := by omega
                have hm1 : (m : Int) < 16 := by omega
                clear hu hm hx hxg
                go_wp2_with fail
                go_quiet ((go_at_call 39; exact Calls.quiet_of_same ((HQ.out _).mono fun _ _ h => ⟨h.1, h.2.symm⟩)))
                go_wp2
                go_roundw
                case rel => exact ⟨k + 1, by omega, by go_num, by rw [HOF.out], hid (below_drewN HB.out _)⟩
                case measure => simp [intOf]; omega
              | false =>
                have HVU : Hid (volT f T k = (rv % 16).toNat) := hid (by rw [HVO.out, e5]; rfl)
                obtain ⟨m, hm⟩ : ∃ m : Nat, m = (rv % 16).toNat := ⟨_, rfl⟩
                obtain ⟨x, hx⟩ : ∃ x, L[m]? = some x := ⟨_, List.getElem?_eq_getElem (by rw [HLL.out]; omega)⟩
                have hxr := HLR.out m
                have hxg : L.getD m 0 = x := by rw [List.getD, hx]; rfl
                rw [hxg] at hxr
                obtain ⟨hx0, hx1⟩ := hxr
                have HOF : Hid (valT f T L (k + 1) = valT f T L k + x) := hid (by rw [valT, HON.out, e1, e3, e2, e4, HVU.out, ← hm, hxg]; simp)
                have hcx : wr.cell? ⟨bl, m, none⟩ = some (.int .i64 x) := (HB.out.cell (p := ⟨bl, m, none⟩) (Array.getElem?_eq_some_iff.1 HL.out).1).trans (cell_of_cells HL.out (by simpa using icells_at hx))
                have hud3 : rv % 16 = (m : Int) := by omega
                have hm0 : (0 : Int) ≤ (m : Int) := by omega
                have hm1 : (m : Int) < 16 := by omega
                clear hm hx hxg
                go_wp2
                go_roundw
                case rel => exact ⟨k + 1, by omega, by go_num, by rw [HOF.out], HB⟩
                case measure => simp [intOf]; omega
            | false =>
              have HOF : Hid (valT f T L (k + 1) = valT f T L k) := hid (by rw [valT, HON.out, e1, e3, e2, e4]; simp)
              go_wp2
              go_roundw
              case rel => exact ⟨k + 1, by omega, by go_num, by rw [HOF.out], HB⟩
              case measure => simp [intOf]; omega
        | false =>
          have HOF : Hid (valT f T L (k + 1) = valT f T L k) := hid (by rw [valT, HON.out, e1, e3]; simp)
          go_wp2
          all_goals
            go_roundw
            case rel => exact ⟨k + 1, by omega, by go_num, by rw [HOF.out], HB⟩
            case measure => simp [intOf]; omega
    · obtain rfl : k = 3 := by omega
      go_wp2
      go_ret
      exact ⟨rfl, HB.out⟩
end Go.Proofs.Ytmogoaceangblaa
