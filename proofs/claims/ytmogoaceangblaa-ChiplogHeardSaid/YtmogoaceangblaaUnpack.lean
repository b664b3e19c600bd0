/- chiplog.Unpack and chiplog.Cycles: what bytes are unpacked to. -/
import Derived.Test.YtmogoaceangblaaRead4
import Derived.Test.YtmogoaceangblaaReadNe
namespace Go.Proofs.Ytmogoaceangblaa
open Go.RowKit

/-- How Unpack ends. -/
def UnpackTo (w : World) (r : Rd (List (List Int) × List Int × Nat)) (e : Ending) (w' : World) : Prop :=
  match r with
  | .inl er => e = .returned (.tuple #[.slice none 0 0, .int .i64 0, .int .i64 er]) ∧ Below w.heap.size w w'
  | .inr s => ∃ B c, e = .returned (.tuple #[.slice B s.1.length c, .int .i64 s.2.2, .int .i64 0]) ∧ LogAt w' B s.1 ∧ Below w.heap.size w w'
/-- A row that is unpacked, apart from the rows' own list. -/
def RowV (wr : World) (v : Value) (log : List (List Int)) (i : Nat) (h : Value) : Prop :=
  ∃ z g c, log[i]? = some z ∧ h = .slice (some ⟨g, 0, none⟩) z.length c ∧ wr.rangeAt g 0 (icells z) ∧ v.ownBlock ≠ some g ∧ g < wr.heap.size
/-- The rows that are unpacked so far. -/
def OutV (wr : World) (B : Nat) (v : Value) (log : List (List Int)) (k : Nat) : Prop :=
  ∃ hdrs : List Value, wr.ownsRow B 30 1 v k hdrs ∧ ∀ (i : Nat) (h : Value), hdrs[i]? = some h → RowV wr v log i h
theorem range_grown {w w' : World} {row : Option Nat} {g : Nat} {cs : List Value} (h : w.rangeAt g 0 cs) (hg : w.grownBy w' row) (hne : row ≠ some g) : w'.rangeAt g 0 cs := fun j v hj => by
  have h1 := h j v hj
  rw [World.cell?_of_block (hg.block g (World.block_lt_of_cell? w _ h1) (fun e => hne e.symm))]
  exact h1
theorem OutV.step {wr w3 w5 : World} {B k g2 c2 : Nat} {v v2 : Value} {log : List (List Int)} {z : List Int} {hdrs : List Value} {o : Obj} (h0 : wr.ownsRow B 30 1 v k hdrs) (hrows : ∀ (i : Nat) (h : Value), hdrs[i]? = some h → RowV wr v log i h)
    (hb : Below wr.heap.size wr w3) (hz : log[k]? = some z) (hr : w3.rangeAt g2 0 (icells z)) (hge : wr.heap.size ≤ g2) (hlt : g2 < w3.heap.size) (hg : (w3.alloc o).grownBy w5 v.ownBlock)
    (ho : w5.ownsRow B 30 1 v2 (k + 1) (hdrs ++ [.slice (some ⟨g2, 0, none⟩) z.length c2])) (ha : v2.ownBlock = v.ownBlock ∨ v2.ownBlock = some (w3.heap.size + 1)) : OutV w5 B v2 log (k + 1) := by
  have hs : (w3.alloc o).heap.size = w3.heap.size + 1 := by simp
  have hl : hdrs.length = k := by have := h0.1; omega
  refine ⟨_, ho, fun i h hi => ?_⟩
  by_cases hik : i < hdrs.length
  · rw [List.getElem?_append_left hik] at hi
    obtain ⟨z', g', c', hz', rfl, hr', hne, hlt'⟩ := hrows i h hi
    refine ⟨z', g', c', hz', rfl, range_grown (World.rangeAt_alloc (rangeAt_below hr' hb) o) hg hne, ?_, ?_⟩
    · rcases ha with e | e
      · rw [e]; exact hne
      · rw [e]; intro e2; have e3 := Option.some.inj e2; have := hb.size; omega
    · have := hb.size; have := hg.size; omega
  · rw [List.getElem?_append_right (by omega)] at hi
    have hi0 : i = hdrs.length := by
      have := (List.getElem?_eq_some_iff.1 hi).1
      simp at this; omega
    subst hi0
    simp at hi
    subst hi
    have hne : v.ownBlock ≠ some g2 := fun e => by have := (h0.lt g2 e).2; omega
    refine ⟨z, g2, c2, by rw [hl]; exact hz, rfl, range_grown (World.rangeAt_alloc hr o) hg hne, ?_, ?_⟩
    · rcases ha with e | e
      · rw [e]; exact hne
      · rw [e]; intro e2; have e3 := Option.some.inj e2; omega
    · have := hg.size; omega
theorem OutV.log {wr : World} {B : Nat} {v : Value} {log : List (List Int)} (h : OutV wr B v log log.length) : ∃ A c, v = .slice A log.length c ∧ LogAt wr A log := by
  obtain ⟨hdrs, h0, hrows⟩ := h
  obtain ⟨A, c, rfl, hA⟩ := owned_form h0
  refine ⟨A, c, rfl, fun i hi => ?_⟩
  obtain ⟨g, rfl, _, _⟩ := hA (by omega)
  have hl : hdrs.length = log.length := by have := h0.1; omega
  obtain ⟨hv, hhv⟩ : ∃ x, hdrs[i]? = some x := ⟨_, List.getElem?_eq_getElem (by omega)⟩
  obtain ⟨z, g', c', hz, rfl, hr, _, _⟩ := hrows i hv hhv
  refine ⟨g, 0, _, c', z, rfl, hz, ?_, fun _ => ⟨g', 0, rfl, hr⟩⟩
  have := h0.cellAt i (by omega)
  rw [Nat.zero_add, this, hhv]
theorem own_range {w : World} {base e n g c : Nat} {xs : List Value} (h : w.ownsRow base e 1 (.slice (some ⟨g, 0, none⟩) n c) n xs) : w.rangeAt g 0 xs := fun j v hj => by
  have hl := (List.getElem?_eq_some_iff.1 hj).1
  have := h.1
  rw [Nat.zero_add, h.cellAt j (by omega), hj]
theorem news_val (w : World) (v : Value) (e : TypeId) : ∀ j u, ([v])[j]? = some u → (w.alloc (.cells #[v] e)).cell? ((⟨w.heap.size, 0, none⟩ : Addr).add j) = some u := by
  intro j u hj
  rw [add_at _ rfl]
  exact range_made w #[v] e j u hj
theorem info61 : (Try.prog.info? 30).map (fun i => (i.zero, i.size, i.bytes)) = some (some (Value.slice none 0 0), 1, 24) := by kernel_rfl
set_option maxHeartbeats 4000000 in
set_option maxRecDepth 100000 in
theorem unpack_any (w : World) (A : Option Addr) (cc : Nat) (b : List Int) (hA : BytesAt w A b) (hs : ∀ p o, A = some ⟨p, o, none⟩ → p < w.heap.size) (hr : ∀ v ∈ b, 0 ≤ v ∧ v < 256) :
    Calls Try.prog 7 #[.slice A b.length cc] w (UnpackTo w (readAll b)) := by
  obtain ⟨i0, hi, hz0, hz1, hz2⟩ := info_parts info61
  have HI := hid hi; have HZ0 := hid hz0; have HZ1 := hid hz1; have HZ2 := hid hz2; clear hi hz0 hz1 hz2
  have HRD := hid (read_any w A cc b hA hs hr)
  clear hA hs hr
  go_enter Try.func7, Try.ntmps7
  go_wp2_with fail
  refine HRD.out.mono ?_
  intro e w1 hto
  cases hp : readAll b with
  | inl er =>
    have hne := readAll_ne hp
    rw [hp] at hto
    obtain ⟨p, rfl, hb⟩ := hto
    have hne' : (er != 0) = true := by simpa using hne
    have HB := hid hb
    have HR := hid hp
    clear hb hp hne HRD
    go_wp2
    refine bodyPost_ret (results_tmp3 rfl _ _ _) rfl ?_
    unfold UnpackTo
    rw [HR.out]
    exact ⟨rfl, HB.out⟩
  | inr s =>
    obtain ⟨log, cyc, at_⟩ := s
    rw [hp] at hto
    obtain ⟨t, vl, vc, rfl, ht, hT, hb⟩ := hto
    simp only at hT
    obtain ⟨EA, ec, rfl, hE⟩ := hT.ent
    have hc2 := cell_of_cells (k := 2) hT.blk rfl
    have hc1 := cell_of_cells (k := 1) hT.blk rfl
    have HB := hid hb; have HT := hid hT; have HE := hid hE; have HC1 := hid hc1
    have hl4 := hT.le4
    have HR := hid hp
    clear hb hT hE HRD hp hc1
    go_wp2_with fail
    go_loopw [2, 21] (fun v i wr => ∃ k : Nat, k ≤ log.length ∧ i = .int .i64 k ∧ Hid (Below w1.heap.size w1 wr) ∧ Hid (OutV wr w1.heap.size v log k)) (fun _ i _ => log.length - (intOf i).toNat)
    case atStart => exact ⟨0, Nat.zero_le _, rfl, hid (Below.refl _ _), hid ⟨[], ⟨rfl, Or.inl ⟨rfl, rfl⟩⟩, fun i h hh => by simp at hh⟩⟩
    case round =>
      obtain ⟨k, hk, rfl, HW, HO⟩ := hrel
      by_cases hlt : k < log.length
      · obtain ⟨z, hz⟩ : ∃ z, log[k]? = some z := ⟨_, List.getElem?_eq_getElem hlt⟩
        obtain ⟨hzl, g, rfl, hrz⟩ := HE.out _ _ hz
        have HZ := hid hz
        have HRZ := hid (rangeAt_below hrz HW.out)
        have HN := hid hzl
        clear hz hrz hzl hc2
        have hk0 : (0 : Int) ≤ (k : Int) := by omega
        have hk1 : (k : Int) < (log.length : Int) := by omega
        have HNZ : Hid ((icells z).toArray.size = 14) := hid (by simp [icells, HN.out])
        have HSZ : Hid ((Try.prog.info? 43).map (·.size) = some (icells z).toArray.size) := hid (by rw [HNZ.out]; exact size75)
        have HSZ' : Hid ((Try.prog.info? 43).map (·.size) = some (icells z).length) := hid (by rw [icells_len, HN.out]; exact size75)
        have HON := hid (icells_one z)
        obtain ⟨zc, hzc⟩ : ∃ q, q = icells z := ⟨_, rfl⟩
        rw [← hzc] at HRZ HNZ HSZ HSZ' HON
        have HZC := hid hzc; clear hzc
        go_wp2_with (first | (refine wpList_load_mid rfl 43 _ rfl g (k * 14) rfl zc _ HRZ.out Try.underlying43 rfl HSZ'.out ?_) | (refine wpList_store_row rfl 43 _ _ rfl wr.heap.size zc.toArray rfl rfl 43 _ (heap_alloc_new _ _) HSZ.out (by rw [HNZ.out]; rfl) (all_oneCell_toArray HON.out) ?_))
        obtain ⟨bx, hbx⟩ : ∃ q, q = wr.heap.size := ⟨_, rfl⟩
        obtain ⟨wn, hwn⟩ : ∃ q, q = wr.alloc (Obj.cells #[Value.int IntKind.i64 0, Value.int IntKind.i64 0, Value.int IntKind.i64 0, Value.int IntKind.i64 0, Value.int IntKind.i64 0, Value.int IntKind.i64 0, Value.int IntKind.i64 0, Value.int IntKind.i64 0, Value.int IntKind.i64 0, Value.int IntKind.i64 0, Value.int IntKind.i64 0, Value.int IntKind.i64 0, Value.int IntKind.i64 0, Value.int IntKind.i64 0] 43) := ⟨_, rfl⟩
        have HBN : Hid (Below wr.heap.size wr wn) := hid (by rw [hwn]; exact Below.grow (Below.refl _ _) _)
        have HNEW : Hid (wn.heap[bx]? = some (.cells #[Value.int IntKind.i64 0, Value.int IntKind.i64 0, Value.int IntKind.i64 0, Value.int IntKind.i64 0, Value.int IntKind.i64 0, Value.int IntKind.i64 0, Value.int IntKind.i64 0, Value.int IntKind.i64 0, Value.int IntKind.i64 0, Value.int IntKind.i64 0, Value.int IntKind.i64 0, Value.int IntKind.i64 0, Value.int IntKind.i64 0, Value.int IntKind.i64 0] 43 (0, 0))) := hid (by rw [hwn, hbx]; exact heap_alloc_new _ _)
        rw [← hbx, ← hwn]
        clear hwn
        obtain ⟨w2, hw2⟩ : ∃ q, q = wn.setRow bx zc.toArray := ⟨_, rfl⟩
        have HB2 : Hid (Below wr.heap.size wr w2) := hid (by rw [hw2]; exact Below.row HBN.out (by omega) _)
        have HXF : Hid (w2.heap[bx]? = some (.cells zc.toArray 43 (0, 0))) := hid (by rw [hw2]; exact setRow_heap wn bx _ _ 43 (0, 0) HNEW.out)
        rw [← hw2]
        clear hw2 HNEW HBN
        refine (Try.slices_Clone_int bx 0 14 14 z w2 (by rw [HN.out]; exact Nat.le_refl _) (by omega) (fun j hj => ?_)).mono ?_
        · rw [Nat.zero_add]
          refine cell_of_cells HXF.out ?_
          rw [HZC.out]
          obtain ⟨y, hy⟩ : ∃ y, z[j]? = some y := ⟨_, List.getElem?_eq_getElem hj⟩
          rw [List.getD, hy]
          simpa using icells_at hy
        · rintro e w3 ⟨v', rfl, ho3, hnn, hb3⟩
          obtain ⟨A3, c3, rfl, hA3⟩ := owned_form ho3
          obtain ⟨g3, rfl, hge3, hlt3⟩ := hA3 (by omega)
          have HR3 : Hid (w3.rangeAt g3 0 (icells z)) := hid (by
            have h1 := own_range ho3
            rwa [List.take_of_length_le (by rw [HN.out]; exact Nat.le_refl _)] at h1)
          have HB3 := hid (Below.step HB2.out hb3)
          have HG3 : Hid (wr.heap.size ≤ g3) := hid (by have := HB2.out.size; omega)
          have HL3 := hid hlt3
          obtain ⟨hdrs, h0, hrows⟩ := HO.out
          have HROWS := hid hrows
          have HOWN := hid h0
          have HOW3 : Hid (w3.ownsRow w1.heap.size 30 1 u2 k hdrs) := hid (ownsRow_same h0 fun q hq => HB3.out.block q (h0.lt q hq).2)
          have HLM : Hid (k + 1 ≤ maxLen) := hid (by unfold maxLen; omega)
          have hbs : w1.heap.size ≤ w3.heap.size := by have := HW.out.size; have := HB3.out.size; omega
          clear ho3 hnn hb3 hA3 hge3 hlt3 hrows h0
          go_wp2_with (first | (at_builtin; refine wpList_append_own_at _ rfl _ _ 22 rfl w1.heap.size 30 i0 _ 1 24 Try.underlying22 HI.out HZ0.out HZ1.out HZ2.out rfl (by decide) u2 k _ rfl (HOW3.out.alloc _) _ 1 1 [.slice (some ⟨g3, 0, none⟩) 14 c3] rfl rfl (news_val _ _ _) (by simp [Value.oneCell']) HLM.out (by omega) (by simp; omega) ?_))
          rintro v2 w5 ho5 hg5 - ha5
          have HO5 := hid (OutV.step HOWN.out HROWS.out HB3.out HZ.out HR3.out HG3.out HL3.out hg5 (by rw [HN.out]; exact ho5) ha5)
          have HW5 : Hid (Below w1.heap.size w1 w5) := hid (Below.grown (Below.grow (Below.step HW.out HB3.out) _) hg5 (by simp; omega) (fun q hq => (HOWN.out.lt q hq).1))
          clear ho5 hg5 ha5 hbs
          go_wp2
          go_roundw
          case rel => exact ⟨k + 1, by omega, by go_num, HW5, HO5⟩
          case measure => simp [intOf]; omega
      · obtain rfl : k = log.length := by omega
        obtain ⟨B, cB, rfl, hlog⟩ := HO.out.log
        have hc1' := cell_of_cells (k := 1) (HT.out.below HW.out).blk rfl
        have HL := hid hlog
        clear hlog hc2
        go_wp2_with fail
        go_quiet (fail)
        go_wp2
        refine bodyPost_ret (results_tmp3 rfl _ _ _) rfl ?_
        unfold UnpackTo
        rw [HR.out]
        exact ⟨B, cB, rfl, LogAt.below HL.out (below_drewN (Below.refl _ _) _), below_drewN (Below.step HB.out HW.out) _⟩
end Go.Proofs.Ytmogoaceangblaa
