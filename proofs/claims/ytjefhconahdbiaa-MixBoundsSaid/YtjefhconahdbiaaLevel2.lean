/- blend.level and the reference's end compute one number and one seed. -/
import Derived.Test.YtjefhconahdbiaaLevel
import Derived.BigQuiet
import Derived.Deep.QuietTactic
namespace Go.Proofs.Ytjefhconahdbiaa
open Go.RowKit

def lev (amp bits : Int) (dith : Bool) (v s : Int) : Int × Int :=
  if bits = 16 then (clampI (v * amp / 128) (-32768) 32767, s)
  else if dith then (clampI ((v * amp / 128 + nxt s / 65536 % 256) / 256) (-128) 127, nxt s)
  else (clampI (v * amp / 128 / 256) (-128) 127, s)
def ocells (rate interp sep amp bits : Int) (dith : Bool) : List Value := [.int .i64 rate, .int .i64 interp, .int .i64 sep, .int .i64 amp, .int .i64 bits, .bool dith]
def Leveled (amp bits : Int) (dith : Bool) (v s : Int) (bs : Nat) (w : World) (e : Ending) (w' : World) : Prop :=
  e = .returned (.int .i64 (lev amp bits dith v s).1) ∧ w'.cell? ⟨bs, 0, none⟩ = some (.int .i64 (lev amp bits dith v s).2) ∧ w'.frozen? ⟨bs, 0, none⟩ = false ∧ w.grownBy w' (some bs)
theorem mul_bounds {v a M : Int} (h1 : -M ≤ v) (h2 : v ≤ M) (ha : 0 ≤ a) (ha2 : a ≤ 256) (hM : 0 ≤ M) : -(M * 256) ≤ v * a ∧ v * a ≤ M * 256 := by
  constructor
  · have h3 : -M * a ≤ v * a := Int.mul_le_mul_of_nonneg_right h1 ha
    have h4 : M * a ≤ M * 256 := Int.mul_le_mul_of_nonneg_left ha2 hM
    rw [Int.neg_mul] at h3
    omega
  · have h3 : v * a ≤ M * a := Int.mul_le_mul_of_nonneg_right h2 ha
    have h4 : M * a ≤ M * 256 := Int.mul_le_mul_of_nonneg_left ha2 hM
    omega

theorem grownBy_setCell (w : World) (b : Nat) (v : Value) : w.grownBy (w.setCell ⟨b, 0, none⟩ v) (some b) :=
  ⟨rfl, rfl, rfl, by simp [World.setCell], fun k _ hne => Below.heap_setCell _ _ _ _ (fun e => hne (by rw [e]))⟩
set_option maxHeartbeats 4000000 in
set_option maxRecDepth 100000 in
theorem level_any (rate interp sep amp bits : Int) (dith : Bool) (v s : Int) (bo oo bs : Nat) (w : World)
    (hr : w.rangeAt bo oo (ocells rate interp sep amp bits dith)) (hs : w.cell? ⟨bs, 0, none⟩ = some (.int .i64 s)) (hf : w.frozen? ⟨bs, 0, none⟩ = false)
    (hv1 : -8796093022208 ≤ v) (hv2 : v ≤ 8796093022208) (ha : 0 ≤ amp) (ha2 : amp ≤ 256) (hs0 : 0 ≤ s) (hs1 : s ≤ 2147483647) :
    Calls Try.prog 75 #[.int .i64 v, .pointer (some ⟨bo, oo, none⟩), .pointer (some ⟨bs, 0, none⟩)] w (Leveled amp bits dith v s bs w) := by
  have c3 : w.cell? ⟨bo, oo + 3, none⟩ = some (.int .i64 amp) := hr 3 _ rfl
  have c4 : w.cell? ⟨bo, oo + 4, none⟩ = some (.int .i64 bits) := hr 4 _ rfl
  have c5 : w.cell? ⟨bo, oo + 5, none⟩ = some (.bool dith) := hr 5 _ rfl
  clear hr
  have hm := mul_bounds hv1 hv2 ha ha2 (by omega)
  obtain ⟨p, hp⟩ : ∃ p, p = v * amp := ⟨_, rfl⟩
  rw [← hp] at hm
  have HP := hid hp
  have hw : wrap64 (v * amp) = p := by rw [← hp]; exact IntWalk.wrap64_in _ ⟨by omega, by omega⟩
  clear hp
  by_cases hb : bits = 16
  · subst hb
    have H : Hid (∀ x, x = clampI (p / 128) (-32768) 32767 → lev amp 16 dith v s = (x, s)) := hid (by
      intro x hx; unfold lev; rw [if_pos rfl, ← HP.out, hx])
    clear c5
    have HS := hid hs; have HF := hid hf; clear hs hf
    go_enter Try.func75, Try.ntmps75
    go_wp2
    all_goals
      rename_i h1
      go_ret
      have hx := H.out _ rfl
      unfold Leveled
      rw [hx]
      refine ⟨ret_int ?_, HS.out, HF.out, World.grownBy.refl _ _⟩
      unfold clampI
      split at h1 <;> omega
  · have hb' : (bits == 16) = false := by rw [beq_eq_false_iff_ne]; exact hb
    have HB := hid hb; clear hb
    cases dith with
    | false =>
      have H : Hid (∀ x, x = clampI (p / 128 / 256) (-128) 127 → lev amp bits false v s = (x, s)) := hid (by
        intro x hx; unfold lev; rw [if_neg HB.out, if_neg (by decide), ← HP.out, hx])
      have HS := hid hs; have HF := hid hf; clear hs hf
      go_enter Try.func75, Try.ntmps75
      go_wp2
      all_goals
        rename_i h1
        go_ret
        have hx := H.out _ rfl
        unfold Leveled
        rw [hx]
        refine ⟨ret_int ?_, HS.out, HF.out, World.grownBy.refl _ _⟩
        unfold clampI
        split at h1 <;> omega
    | true =>
      have H : Hid (∀ x, x = clampI ((p / 128 + nxt s / 65536 % 256) / 256) (-128) 127 → lev amp bits true v s = (x, nxt s)) := hid (by
        intro x hx; unfold lev; rw [if_neg HB.out, if_pos rfl, ← HP.out, hx])
      have HN0 := hid (nxt_lo s); have HN1 := hid (nxt_hi s)
      have hn0 := nxt_lo s; have hn1 := nxt_hi s
      go_enter Try.func75, Try.ntmps75
      go_wp2_with fail
      refine (next_any s _ hs0 hs1).mono ?_
      rintro e w1 ⟨rfl, rfl⟩
      generalize nxt s = t at *
      have hd : wrap64 (p / 128 + Go.bits BinOp.and IntKind.i64 (t / 65536) 255) = p / 128 + t / 65536 % 256 := by
        rw [and_mask8]; exact IntWalk.wrap64_in _ ⟨by omega, by omega⟩
      have hc' : (w.setCell ⟨bs, 0, none⟩ (.int .i64 t)).cell? ⟨bs, 0, none⟩ = some (.int .i64 t) := World.cell?_setCell_same' _ _ _ (by rw [hs]; rfl)
      go_wp2
      all_goals
        rename_i h1
        go_ret
        have hx := H.out _ rfl
        unfold Leveled
        rw [hx]
        refine ⟨ret_int ?_, hc', by rw [World.frozen?_setCell]; exact hf, grownBy_setCell _ _ _⟩
        unfold clampI
        split at h1 <;> omega

set_option maxHeartbeats 4000000 in
set_option maxRecDepth 100000 in
theorem end_any (rate interp sep amp bits : Int) (dith : Bool) (v s : Int) (w : World)
    (hv1 : -8796093022208 ≤ v) (hv2 : v ≤ 8796093022208) (ha : 0 ≤ amp) (ha2 : amp ≤ 256) (hs0 : 0 ≤ s) (hs1 : s ≤ 2147483647) :
    Calls Try.prog 77 #[.int .i64 v, .agg (ocells rate interp sep amp bits dith).toArray, .int .i64 s] w fun e w' =>
      e = .returned (.tuple #[.int .i64 (lev amp bits dith v s).1, .int .i64 (lev amp bits dith v s).2]) ∧ Below w.heap.size w w' := by
  have hm := mul_bounds hv1 hv2 ha ha2 (by omega)
  obtain ⟨p, hp⟩ : ∃ p, p = v * amp := ⟨_, rfl⟩
  rw [← hp] at hm
  have HP := hid hp
  have hw : wrap64 (v * amp) = p := by rw [← hp]; exact IntWalk.wrap64_in _ ⟨by omega, by omega⟩
  clear hp
  unfold ocells
  by_cases hb : bits = 16
  · subst hb
    have H : Hid (lev amp 16 dith v s = (clampI (p / 128) (-32768) 32767, s)) := hid (by
      unfold lev; rw [if_pos rfl, ← HP.out])
    go_enter Try.func77, Try.ntmps77
    go_wp2_with fail
    refine (floordiv_any p 128 _ (by omega) (by omega) (by omega)).mono ?_
    rintro e w1 ⟨rfl, rfl⟩
    go_wp2_with fail
    refine (clamp_any _ _ _ _).mono ?_
    rintro e w1 ⟨rfl, rfl⟩
    go_wp2
    go_ret2
    rw [H.out]
    exact ⟨rfl, Below.grow (Below.refl _ _) _⟩
  · have hb' : (bits == 16) = false := by rw [beq_eq_false_iff_ne]; exact hb
    have HB := hid hb; clear hb
    cases dith with
    | false =>
      have H : Hid (lev amp bits false v s = (clampI (p / 128 / 256) (-128) 127, s)) := hid (by
        unfold lev; rw [if_neg HB.out, if_neg (by decide), ← HP.out])
      go_enter Try.func77, Try.ntmps77
      go_wp2_with fail
      refine (floordiv_any p 128 _ (by omega) (by omega) (by omega)).mono ?_
      rintro e w1 ⟨rfl, rfl⟩
      go_wp2_with fail
      refine (floordiv_any (p / 128) 256 _ (by omega) (by omega) (by omega)).mono ?_
      rintro e w1 ⟨rfl, rfl⟩
      go_wp2_with fail
      refine (clamp_any _ _ _ _).mono ?_
      rintro e w1 ⟨rfl, rfl⟩
      go_wp2
      go_ret2
      rw [H.out]
      exact ⟨rfl, Below.grow (Below.refl _ _) _⟩
    | true =>
      have H : Hid (lev amp bits true v s = (clampI ((p / 128 + nxt s / 65536 % 256) / 256) (-128) 127, nxt s)) := hid (by
        unfold lev; rw [if_neg HB.out, if_pos rfl, ← HP.out])
      have hn0 := nxt_lo s; have hn1 := nxt_hi s
      go_enter Try.func77, Try.ntmps77
      go_wp2_with fail
      refine (floordiv_any p 128 _ (by omega) (by omega) (by omega)).mono ?_
      rintro e w1 ⟨rfl, rfl⟩
      go_wp2_with fail
      refine (refnext_any s _ hs0 hs1).mono ?_
      rintro e w1 ⟨rfl, rfl⟩
      generalize nxt s = t at *
      have ht1 : Int.tdiv t 65536 = t / 65536 := Int.tdiv_eq_ediv_of_nonneg (by omega)
      have ht2 : Int.tmod (t / 65536) 256 = t / 65536 % 256 := Int.tmod_eq_emod_of_nonneg (by omega)
      go_wp2_with fail
      refine (floordiv_any (p / 128 + t / 65536 % 256) 256 _ (by omega) (by omega) (by omega)).mono ?_
      rintro e w1 ⟨rfl, rfl⟩
      go_wp2_with fail
      refine (clamp_any _ _ _ _).mono ?_
      rintro e w1 ⟨rfl, rfl⟩
      go_wp2
      go_ret2
      rw [H.out]
      exact ⟨rfl, Below.grow (Below.refl _ _) _⟩
end Go.Proofs.Ytjefhconahdbiaa
