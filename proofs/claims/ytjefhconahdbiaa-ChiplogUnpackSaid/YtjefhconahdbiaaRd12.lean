/- The reference's command, whichever. -/
import Derived.Test.YtjefhconahdbiaaRd11
namespace Go.Proofs.Ytjefhconahdbiaa
open Go.RowKit

set_option maxHeartbeats 4000000 in
set_option maxRecDepth 100000 in
theorem refcmd_many (w : World) (r : Nat) (SA : Option Addr) (sc : Nat) (b : List Int) (at_ : Nat) (log : List (List Int)) (cyc : List Int) (vl vc : Value) (h : RdV w r (.slice SA b.length sc) at_ log cyc vl vc 0) (hR : Reads w r SA b) (hat : at_ ≤ b.length) :
    Calls Try.prog 86 #[.pointer (some ⟨r, 0, none⟩), .int .i64 192] w (CmdTo w r (.slice SA b.length sc) vl vc b (manyL b at_ log cyc)) := by
  obtain ⟨A, ca, rfl, -, -⟩ := h.log
  have hc2 := cell_of_cells (k := 2) h.blk rfl
  have HKP : Hid (∀ w', Below w.heap.size w w' → w'.cell? ⟨r, 2, none⟩ = some (.slice A log.length ca)) := hid (fun w' hb => (hb.cell (World.block_lt_of_cell? w _ hc2)).trans hc2)
  have HH := hid h; have HR := hid hR
  have h4 := h.le4
  have hw1 : IntKind.i64.wrap ((log.length : Int) - 1) = (log.length : Int) - 1 := by rw [IntKind.wrap_i64]; omega
  have HPL := hid (prev_len h.len (Nat.le_refl log.length))
  clear h hR
  go_enter Try.func86, Try.ntmps86
  go_wp2_with fail
  go_region_held3 (fun w' => w'.cell? ⟨r, 2, none⟩ = some (.slice A log.length ca) ∧ Below w.heap.size w w') (first | assumption | (exact ⟨HKP.out _ (Below.refl _ _).drew, (Below.refl _ _).drew⟩) | (obtain ⟨h1, h2⟩ := (by assumption : _ ∧ Below w.heap.size w _); exact ⟨HKP.out _ (Below.step h2 (by assumption)), Below.step h2 (by assumption)⟩))
    ((first
      | (go_at_call 71; go_loud (refine (rentry_any _ r _ at_ log cyc A ca vc 0 (HH.out.below (And.right (by assumption))) log.length (Nat.le_refl _)).mono ?_; rintro e w' ⟨g, c', rfl, hr, hn, hg, hb⟩))))
  have HB : Hid (Below w.heap.size w w') := hid (And.right (by assumption))
  have HX := hid hr; have HN := hid hn
  have HT : Hid (RdV w' r (.slice SA b.length sc) at_ log cyc (.slice A log.length ca) vc 0) := hid (HH.out.below HB.out)
  have HON : Hid (Only (Own r (.slice A log.length ca) vc) w w') := hid (Only.ofBelow HB.out)
  have HR1 : Hid (Reads w' r SA b) := hid (HR.out.only HON.out HH.out.own_le)
  rename_i hheld
  clear hheld hr hn hg hb hw1 hc2 h4
  go_wp2_with fail
  refine (rsome_any w' r SA sc b at_ log cyc _ vc g c' (prev log log.length) HT.out HR1.out hat HX.out HPL.out rfl HN.out).mono ?_
  intro en w3 hto
  have hto' := hto.from HON.out
  obtain ⟨rfl, hrest⟩ := hto'
  have HREST := hid hrest
  clear hrest hto
  go_wp2
  go_end0
  exact ⟨rfl, HREST.out⟩
theorem cmd_forms (b : List Int) (c : Int) (at_ : Nat) (log : List (List Int)) (cyc : List Int) :
    cmdL b c at_ log cyc = if c ≤ 127 then atS at_ (runsL (lastOf log) c.toNat log cyc) else if c ≤ 191 then (if 142 ≤ c then .inl 9 else singleS b at_ log cyc (c - 128).toNat) else if c ≤ 192 then manyL b at_ log cyc else repeatS b at_ log cyc c := by
  unfold cmdL
  split
  · unfold atS
    cases runsL (lastOf log) c.toNat log cyc with
    | inl e => rfl
    | inr p => obtain ⟨l, k⟩ := p; rfl
  · split
    · split
      · rfl
      · unfold singleS
        cases writeL b at_ (lastOf log) (c - 128).toNat with
        | inl e => rfl
        | inr p =>
          obtain ⟨a, x⟩ := p
          unfold putS
          simp only
          cases putL log cyc x 12 with
          | inl e => rfl
          | inr p => obtain ⟨l, k⟩ := p; rfl
    · split
      · rfl
      · unfold repeatS atS
        cases b[at_]? with
        | none => rfl
        | some d =>
          simp only
          split
          · rfl
          · cases repsL d.toNat (c - 191).toNat 18 log cyc with
            | inl e => rfl
            | inr p => obtain ⟨l, k⟩ := p; rfl
theorem refcmd_any (w : World) (r : Nat) (SA : Option Addr) (sc : Nat) (b : List Int) (at_ : Nat) (log : List (List Int)) (cyc : List Int) (vl vc : Value) (c : Int) (h : RdV w r (.slice SA b.length sc) at_ log cyc vl vc 0) (hR : Reads w r SA b) (hat : at_ ≤ b.length) (h0 : 0 ≤ c) (h255 : c ≤ 255) :
    Calls Try.prog 86 #[.pointer (some ⟨r, 0, none⟩), .int .i64 c] w (CmdTo w r (.slice SA b.length sc) vl vc b (cmdL b c at_ log cyc)) := by
  obtain ⟨n, rfl⟩ : ∃ n : Nat, c = (n : Int) := ⟨c.toNat, by omega⟩
  rw [cmd_forms]
  by_cases h1 : n ≤ 127
  · rw [if_pos (by omega), Int.toNat_natCast]
    exact refcmd_run w r _ b at_ log cyc vl vc n h hat h1
  · rw [if_neg (by omega)]
    by_cases h2 : n ≤ 191
    · rw [if_pos (by omega)]
      by_cases h3 : 142 ≤ n
      · rw [if_pos (by omega)]
        exact refcmd_no w r _ b at_ log cyc vl vc n h hat h3 h2
      · rw [if_neg (by omega)]
        obtain ⟨i, rfl⟩ : ∃ i, n = 128 + i := ⟨n - 128, by omega⟩
        rw [show (((128 + i : Nat) : Int) - 128).toNat = i by omega]
        exact refcmd_single w r SA sc b at_ log cyc vl vc i h hR hat (by omega)
    · rw [if_neg (by omega)]
      by_cases h4 : n ≤ 192
      · rw [if_pos (by omega)]
        obtain rfl : n = 192 := by omega
        exact refcmd_many w r SA sc b at_ log cyc vl vc h hR hat
      · rw [if_neg (by omega)]
        exact refcmd_rep w r SA sc b at_ log cyc vl vc n h hR hat (by omega) (by omega)
end Go.Proofs.Ytjefhconahdbiaa
