/- The reference's Read. -/
import Derived.Test.YtjefhconahdbiaaRd12
namespace Go.Proofs.Ytjefhconahdbiaa
open Go.RowKit

theorem RdV.atOf {w : World} {r at_ : Nat} {sb vl vc : Value} {log : List (List Int)} {cyc : List Int} {e : Int} (h : RdV w r sb at_ log cyc vl vc e) : atOf w r = at_ := by
  unfold Ytjefhconahdbiaa.atOf
  rw [cell_of_cells (k := 1) h.blk rfl]
  simp [intOf]
/-- How the reference's Read ends. -/
def RReadTo (w : World) (r : Rd (List (List Int) × List Int × Nat)) (e : Ending) (w' : World) : Prop :=
  match r with
  | .inl er => e = .returned (.tuple #[.slice none 0 0, .slice none 0 0, .int .i64 0, .int .i64 er]) ∧ Below w.heap.size w w'
  | .inr s => ∃ A c C d, e = .returned (.tuple #[.slice A s.1.length c, .slice C s.2.1.length d, .int .i64 s.2.2, .int .i64 0]) ∧ LogAt w' A s.1 ∧ w'.ownsRow w.heap.size 3 1 (.slice C s.2.1.length d) s.2.1.length (icells s.2.1) ∧ s.2.1.length = s.1.length ∧ s.1.length ≤ 4000 ∧ Below w.heap.size w w'
/-- What holds of memory while the reader reads. -/
structure RMid (w : World) (r : Nat) (A : Option Addr) (cc : Nat) (b : List Int) (at_ : Nat) (log : List (List Int)) (cyc : List Int) (vl vc : Value) (e : Int) (wr : World) : Prop where
  rd : RdV wr r (.slice A b.length cc) at_ log cyc vl vc e
  src : Reads wr r A b
  below : Below w.heap.size w wr
  ge : w.heap.size ≤ r
theorem RMid.own {w wr w' : World} {r : Nat} {A : Option Addr} {cc : Nat} {b : List Int} {at_ at2 : Nat} {log log2 : List (List Int)} {cyc cyc2 : List Int} {vl vc vl2 vc2 : Value} {e e2 : Int}
    (m : RMid w r A cc b at_ log cyc vl vc e wr) (ho : Only (Own r vl vc) wr w') (ht : RdV w' r (.slice A b.length cc) at2 log2 cyc2 vl2 vc2 e2) : RMid w r A cc b at2 log2 cyc2 vl2 vc2 e2 w' :=
  ⟨ht, m.src.only ho m.rd.own_le, Only.below m.below ho (fun q hq => Nat.le_trans m.ge (m.rd.own_le q hq)) m.below.size, m.ge⟩
theorem RMid.drewN {w wr : World} {r : Nat} {A : Option Addr} {cc : Nat} {b : List Int} {at_ : Nat} {log : List (List Int)} {cyc : List Int} {vl vc : Value} {e : Int} (m : RMid w r A cc b at_ log cyc vl vc e wr) (n : Nat) : RMid w r A cc b at_ log cyc vl vc e (wr.drewN n) :=
  m.own ((Only.refl _ wr).drewN n) (m.rd.below (below_drewN (Below.refl _ _) n))
theorem ownsRow_ge {w : World} {base base2 : Nat} {e : TypeId} {sz n : Nat} {v : Value} {xs : List Value} (h : w.ownsRow base e sz v n xs) (hb : base2 ≤ base) : w.ownsRow base2 e sz v n xs := by
  refine ⟨h.1, ?_⟩
  rcases h.2 with h' | ⟨g, cap, cur, rfl, h2, h3⟩
  · exact Or.inl h'
  · exact Or.inr ⟨g, cap, cur, rfl, Nat.le_trans hb h2, h3⟩
set_option maxHeartbeats 8000000 in
set_option maxRecDepth 100000 in
theorem rread_any (w : World) (A : Option Addr) (cc : Nat) (b : List Int) (hA : BytesAt w A b) (hs : ∀ p o, A = some ⟨p, o, none⟩ → p < w.heap.size) (hr : ∀ v ∈ b, 0 ≤ v ∧ v < 256) (hl : b.length ≤ 400000) :
    Calls Try.prog 64 #[.slice A b.length cc] w (RReadTo w (readAll b)) := by
  have e0 : readAll b = readL b (b.length + 1) 0 [] [] := by unfold readAll; rw [if_neg (by omega)]
  rw [e0]
  have hd : decide ((400000 : Int) < (b.length : Int)) = false := decide_eq_false (by omega)
  have HA := hid hA; have HS := hid hs; have HR := hid hr; have HL := hid hl
  clear e0 hA hs hr
  go_enter Try.func64, Try.ntmps64
  go_wp2_with fail
  obtain ⟨w1, hw1⟩ : ∃ z, z = w.alloc (Obj.cells #[Value.slice A b.length cc, Value.int IntKind.i64 0, Value.slice none 0 0, Value.slice none 0 0, Value.int IntKind.i64 0] 133) := ⟨_, rfl⟩
  obtain ⟨r, hr⟩ : ∃ z, z = w.heap.size := ⟨_, rfl⟩
  rw [← hw1, ← hr]
  have HM : Hid (RMid w r A cc b 0 [] [] (.slice none 0 0) (.slice none 0 0) 0 w1) := hid (by
    have hb : Below w.heap.size w w1 := by rw [hw1]; exact Below.grow (Below.refl _ _) _
    refine ⟨⟨by rw [hw1, hr]; exact heap_alloc_new _ _, ⟨[], World.ownsRow_nil _ _ _ _, by simp⟩, World.ownsRow_nil _ _ _ _, by simp [Value.ownBlock], by simp, rfl, by simp⟩, ⟨HA.out.below hb, fun p o e => by rw [hr]; exact HS.out p o e, HR.out, HL.out⟩, hb, by omega⟩)
  clear hw1 hr hd
  go_loopw [] (fun wr => ∃ (at_ f : Nat) (log : List (List Int)) (cyc : List Int) (vl vc : Value), at_ ≤ b.length ∧ b.length + 1 ≤ f + at_ ∧ Hid (readL b (b.length + 1) 0 [] [] = readL b f at_ log cyc) ∧ Hid (RMid w r A cc b at_ log cyc vl vc 0 wr)) (fun wr => b.length - atOf wr r)
  case atStart => exact ⟨0, b.length + 1, [], [], _, _, Nat.zero_le _, by omega, hid rfl, HM⟩
  case round =>
    obtain ⟨at_, f, log, cyc, vl, vc, hat, hf, HU, HM⟩ := hrel
    have HW : Hid (atOf wr r = at_) := hid HM.out.rd.atOf
    go_wp2_with fail
    refine (rnext_any wr r A cc b at_ log cyc vl vc 0 HM.out.rd HM.out.src hat).mono ?_
    rintro en w2 ⟨rfl, ht2, ho2⟩
    have ho2' : Only (Own r vl vc) wr w2 := ho2.mono (fun q _ hq => Or.inl hq)
    cases hv : b[at_]? with
    | none =>
      have en : nextS b at_ 0 = (0, at_, 12) := by unfold nextS; rw [if_pos rfl, hv]
      rw [en] at ht2 ⊢
      simp only at ht2 ⊢
      have HM2 := hid (HM.out.own ho2' ht2)
      have HRES : Hid (readL b f at_ log cyc = .inl 12) := hid (readL_none hv)
      have hc4 := cell_of_cells (k := 4) ht2.blk rfl
      clear ht2 ho2 ho2' en hv
      go_wp2_with fail
      go_quiet (fail)
      go_wp2
      refine bodyPost_ret (v := .tuple #[.slice none 0 0, .slice none 0 0, .int .i64 0, .int .i64 12]) (by simp [results, Try.results64, go_sem]) rfl ?_
      unfold RReadTo
      rw [HU.out, HRES.out]
      exact ⟨rfl, (HM2.out.drewN _).below⟩
    | some v =>
      have en : nextS b at_ 0 = (v, at_ + 1, 0) := by unfold nextS; rw [if_pos rfl, hv]
      rw [en] at ht2 ⊢
      simp only at ht2 ⊢
      have hvr := HR.out v (List.mem_of_getElem? hv)
      have hat1 : at_ + 1 ≤ b.length := (List.getElem?_eq_some_iff.1 hv).1
      obtain ⟨f', rfl⟩ : ∃ f', f = f' + 1 := ⟨f - 1, by omega⟩
      have HM2 := hid (HM.out.own ho2' ht2)
      have HSTEP : Hid (readL b (f' + 1) at_ log cyc = goL b f' v (at_ + 1) log cyc) := hid (readL_goL hv)
      have hc4 := cell_of_cells (k := 4) ht2.blk rfl
      clear ho2 ho2' en hv
      by_cases hv0 : v = 0
      · subst hv0
        obtain ⟨A2, ca, rfl, hlog, -⟩ := ht2.log
        have hown := ht2.ownC
        obtain ⟨C2, cd, rfl, -⟩ := owned_form hown
        have hc1 := cell_of_cells (k := 1) ht2.blk rfl
        have hc2 := cell_of_cells (k := 2) ht2.blk rfl
        have hc3 := cell_of_cells (k := 3) ht2.blk rfl
        have HLOG := hid hlog; have HOWN := hid hown
        have HRES : Hid (readL b (f' + 1) at_ log cyc = .inr (log, cyc, at_ + 1)) := hid (by rw [HSTEP.out]; unfold goL; rw [if_pos rfl])
        clear ht2 hlog hown hvr
        go_wp2_with fail
        go_quiet (fail)
        go_wp2
        refine bodyPost_ret (v := .tuple #[.slice A2 log.length ca, .slice C2 cyc.length cd, .int .i64 ((at_ + 1 : Nat) : Int), .int .i64 0]) (by simp [results, Try.results64, go_sem]) rfl ?_
        unfold RReadTo
        rw [HU.out, HRES.out]
        have hm := HM2.out.drewN nq
        refine ⟨A2, ca, C2, cd, rfl, HLOG.out.below (below_drewN (Below.refl _ _) _), ownsRow_ge (ownsRow_same HOWN.out fun q _ => rfl) (by have := hm.ge; omega), hm.rd.eqv, hm.rd.le4, hm.below⟩
      · have hne : (v == 0) = false := by simpa using hv0
        have HV0 := hid hv0
        have hv1 := hvr.1; have hv2 := hvr.2
        clear ht2 hv0 hvr
        go_wp2_with fail
        refine (refcmd_any w2 r A cc b (at_ + 1) log cyc vl vc v HM2.out.rd HM2.out.src hat1 hv1 (by omega)).mono ?_
        rintro en w3 ⟨rfl, at3, log3, cyc3, vl3, vc3, e3, ht3, ha3, his, ho3, hw3⟩
        have HM3 := hid (HM2.out.own ho3 ht3)
        have hc4 := cell_of_cells (k := 4) ht3.blk rfl
        cases hp : cmdL b v (at_ + 1) log cyc with
        | inl er =>
          rw [hp] at his
          have hee : e3 = er := his
          subst hee
          have hne3 := cmdL_ne hp
          have hne1 : (e3 != 0) = true := by simpa using hne3
          have HRES : Hid (readL b (f' + 1) at_ log cyc = .inl e3) := hid (by rw [HSTEP.out]; unfold goL; rw [if_neg HV0.out, hp])
          clear ht3 ha3 his ho3 hw3 hp hne3
          go_wp2_with fail
          go_quiet (fail)
          go_wp2
          refine bodyPost_ret (v := .tuple #[.slice none 0 0, .slice none 0 0, .int .i64 0, .int .i64 e3]) (by simp [results, Try.results64, go_sem]) rfl ?_
          unfold RReadTo
          rw [HU.out, HRES.out]
          exact ⟨rfl, (HM3.out.drewN _).below⟩
        | inr s =>
          rw [hp] at his
          obtain ⟨hs, rfl⟩ := his
          subst hs
          obtain ⟨ha1, -⟩ := cmdL_at hp hat1
          simp only at ha1
          have HRES : Hid (readL b (f' + 1) at_ log cyc = readL b f' at3 log3 cyc3) := hid (by rw [HSTEP.out]; unfold goL; rw [if_neg HV0.out, hp])
          have HAT : Hid (atOf w3 r = at3) := hid HM3.out.rd.atOf
          clear ht3 ho3 hw3 hp
          go_wp2
          go_roundw
          case rel => exact ⟨at3, f', log3, cyc3, vl3, vc3, ha3, by omega, hid (HU.out.trans HRES.out), HM3⟩
          case measure => rw [HAT.out, HW.out]; omega
end Go.Proofs.Ytjefhconahdbiaa
