/- chiplog.alone gives the bytes of an entry that differs. -/
import Derived.Test.YtmogoaceangblaaPackSpec
import Derived.Test.YtmogoaceangblaaDiffer
import Derived.Deep.RegionHeld3
import Derived.Deep.AppendLies
namespace Go.Proofs.Ytmogoaceangblaa
open Go.RowKit

theorem owns_built (w : World) (base n : Nat) (cur : Array Value) (e : TypeId) (hb : base ≤ w.heap.size) (hm : n ≤ maxLen) (hs : cur.size = n) :
    (w.alloc (.cells cur e)).ownsRow base e 1 (.slice (some ⟨w.heap.size, 0, none⟩) n n) n cur.toList :=
  ⟨by simp [hs], .inr ⟨w.heap.size, n, cur, rfl, hb, heap_alloc_new w _, Nat.le_refl _, hm, by simp [hs], by rw [Nat.mul_one, List.take_of_length_le (by simp [hs])]⟩⟩
theorem ret_cell {k : IntKind} {a b : Int} (h : a = b) : Value.int k a = Value.int k b := by rw [h]
theorem news_u8 (w : World) (v : Int) (e : TypeId) : ∀ j u, ([Value.int .u8 v])[j]? = some u → (w.alloc (.cells #[.int .u8 v] e)).cell? ((⟨w.heap.size, 0, none⟩ : Addr).add j) = some u := by
  intro j u hj
  rw [add_at _ rfl]
  exact range_made w #[.int .u8 v] e j u hj
theorem or_i64 (a b : Nat) (ha : a < 65536) (hb : b < 65536) : bits .or .i64 (a : Int) (b : Int) = ((a ||| b : Nat) : Int) := by
  have hx : a ||| b < 2 ^ 16 := Nat.or_lt_two_pow (by omega) (by omega)
  have h1 : (BitVec.ofInt 64 (a : Int)).toNat = a := by
    rw [BitVec.ofInt_natCast, BitVec.toNat_ofNat]; exact Nat.mod_eq_of_lt (by omega)
  have h2 : (BitVec.ofInt 64 (b : Int)).toNat = b := by
    rw [BitVec.ofInt_natCast, BitVec.toNat_ofNat]; exact Nat.mod_eq_of_lt (by omega)
  show IntKind.i64.wrap ((BitVec.ofInt 64 (a : Int) ||| BitVec.ofInt 64 (b : Int)).toNat : Int) = _
  rw [BitVec.toNat_or, h1, h2, IntKind.wrap_i64]
  omega
theorem or_pow (m k : Nat) (h : m < 2 ^ k) : m ||| 2 ^ k = m + 2 ^ k := by
  have := Nat.two_pow_add_eq_or_of_lt h 1
  rw [Nat.mul_one] at this
  rw [Nat.or_comm, ← this, Nat.add_comm]
theorem right_nat {z : List Int} {j : Nat} {v : Int} (h : right z = true) (hv : z[j]? = some v) : ∃ n : Nat, v = n ∧ n < 256 := by
  unfold right at h
  rw [Bool.and_eq_true, List.all_eq_true] at h
  have := h.2 v (List.mem_of_getElem? hv)
  rw [inr_iff] at this
  exact ⟨v.toNat, by omega, by omega⟩
theorem own_at {w : World} {base n g cap j : Nat} {e : TypeId} {xs : List Value} {v : Value} (h : w.ownsRow base e 1 (.slice (some ⟨g, 0, none⟩) n cap) n xs) (hj : xs[j]? = some v) : w.cell? ⟨g, j, none⟩ = some v := by
  rcases h.2 with ⟨h0, _⟩ | ⟨g', cap', cur, h0, _, h3, _, _, _, h7⟩
  · cases h0
  · cases h0
    have hl := (List.getElem?_eq_some_iff.1 hj).1
    rw [← h7, List.getElem?_take] at hj
    unfold World.cell?
    simp only [h3]
    split at hj
    · simpa using hj
    · cases hj
/-- The places of a difference, one by one. -/
theorem diffs_at {x y : List Int} {j : Nat} (h : j < (diffs x y).length) : ∃ k : Nat, (diffs x y)[j]? = some (k : Int) ∧ k < 14 ∧ maskL ((diffs x y).take j) < 2 ^ k ∧ maskL ((diffs x y).take (j + 1)) = maskL ((diffs x y).take j) + 2 ^ k := by
  obtain ⟨h1, h2, h3⟩ := ups_diffs x y 14
  have hg : (diffs x y)[j]? = some ((diffs x y)[j]'h) := List.getElem?_eq_getElem h
  have hb := h2 _ (List.getElem_mem h)
  refine ⟨((diffs x y)[j]'h).toNat, by rw [hg]; congr 1; omega, by omega, h3 j _ hg, ?_⟩
  rw [List.take_add_one, hg, Option.toList_some, maskL_snoc]
def manyTo (M : Nat) (old x : List Int) (j : Nat) : List Int := [192, ((M : Int) % 256), ((M : Int) / 256)] ++ ((diffs old x).take j).map (fun r => x.getD r.toNat 0)
theorem info5 : (Try.prog.info? 5).map (fun i => (i.zero, i.size, i.bytes)) = some (some (.int .u8 0), 1, 1) := by kernel_rfl
def Aloned (old x : List Int) (w : World) (e : Ending) (w' : World) : Prop :=
  ∃ v, e = .returned v ∧ w'.ownsRow w.heap.size 5 1 v (aloneOf old x).length (u8cells (aloneOf old x)) ∧ Below w.heap.size w w'

set_option maxHeartbeats 4000000 in
set_option maxRecDepth 100000 in
theorem alone_any (old x : List Int) (w : World) (ho : old.length = 14) (hx : right x = true) :
    Calls Try.prog 14 #[.agg (icells old).toArray, .agg (icells x).toArray] w (Aloned old x w) := by
  obtain ⟨i0, hi, hz0, hz1, hz2⟩ := info_parts info5
  have HI := hid hi; have HZ0 := hid hz0; have HZ1 := hid hz1; have HZ2 := hid hz2; clear hi hz0 hz1 hz2
  have HOL := hid ho; have HXR := hid hx; have HXL := hid (right_14 hx); clear ho hx
  have HS1 : Hid ((Try.prog.info? 43).map (·.size) = some (icells old).length) := hid (by rw [icells_len, HOL.out]; exact size75)
  have HS2 : Hid ((Try.prog.info? 43).map (·.size) = some (icells x).length) := hid (by rw [icells_len, HXL.out]; exact size75)
  have HRX0 : Hid (((w.alloc (Obj.cells (icells old).toArray 43)).alloc (Obj.cells (icells x).toArray 43)).rangeAt w.heap.size 0 (icells old)) := hid (rangeAt_below (by simpa using range_made w (icells old).toArray 43) (Below.grow (Below.refl _ _) _))
  have HRY0 : Hid (((w.alloc (Obj.cells (icells old).toArray 43)).alloc (Obj.cells (icells x).toArray 43)).rangeAt (w.heap.size + 1) 0 (icells x)) := hid (by
    have := range_made (w.alloc (Obj.cells (icells old).toArray 43)) (icells x).toArray 43
    simpa using this)
  go_enter Try.func14, Try.ntmps14
  go_wp2_with (first
    | (refine wpList_load_mid rfl 43 _ rfl w.heap.size 0 rfl (icells old) _ HRX0.out Try.underlying43 rfl HS1.out ?_)
    | (refine wpList_load_mid rfl 43 _ rfl (w.heap.size + 1) 0 rfl (icells x) _ HRY0.out Try.underlying43 rfl HS2.out ?_))
  generalize hw1 : ((w.alloc (Obj.cells (icells old).toArray 43)).alloc (Obj.cells (icells x).toArray 43)) = w1 at *
  have HS : Hid (w1.heap.size = w.heap.size + 2) := hid (by rw [← hw1]; simp)
  have HB1 : Hid (Below w.heap.size w w1) := hid (by rw [← hw1]; exact (Below.grow (Below.grow (Below.refl _ _) _) _))
  clear hw1
  refine (changed_any old x _ HOL.out HXL.out).mono ?_
  rintro e w2 ⟨v, rfl, hown, hb⟩
  have hdl : (diffs old x).length ≤ 14 := diffsTo_le _ _ _
  have HO := hid hown; have HB2 := hid (Below.step HB1.out hb)
  have HRY : Hid (w2.rangeAt (w.heap.size + 1) 0 (icells x)) := hid (rangeAt_below HRY0.out hb)
  have hs1 := HS.out
  have hs2 := hb.size
  clear hown hb HRX0 HRY0
  by_cases h1 : (diffs old x).length = 1
  · obtain ⟨r, hr1, hr2, _⟩ := diffs_at (x := old) (y := x) (j := 0) (by omega)
    obtain ⟨g, cap, cur, rfl, hg, hcur, hcap⟩ : ∃ g cap cur, v = .slice (some ⟨g, 0, none⟩) 1 cap ∧ w1.heap.size ≤ g ∧ w2.heap[g]? = some (.cells cur 3 (0, 0)) ∧ cur.toList.take 1 = [.int .i64 (r : Int)] := by
      rcases HO.out.2 with ⟨_, h0⟩ | ⟨g, cap, cur, rfl, hg, hc, h4, h5, h6, h7⟩
      · omega
      · refine ⟨g, cap, cur, by rw [h1], hg, hc, ?_⟩
        have : diffs old x = [(r : Int)] := by
          apply List.ext_getElem?
          intro j
          match j with
          | 0 => rw [hr1]; rfl
          | j + 1 => rw [List.getElem?_eq_none (by omega)]; rfl
        rw [h1, this] at h7
        exact h7
    obtain ⟨y, hy⟩ : ∃ y, x[r]? = some y := ⟨_, List.getElem?_eq_getElem (by have := HXL.out; omega)⟩
    have hcy := HRY.out r _ (icells_at hy)
    rw [Nat.zero_add] at hcy
    obtain ⟨yn, rfl, hyn⟩ := right_nat HXR.out hy
    have hc0 : w2.cell? ⟨g, 0, none⟩ = some (.int .i64 (r : Int)) := by
      have h := HO.out
      rw [h1] at h
      exact own_at h (icells_at hr1)
    have hr0 : (0 : Int) ≤ (r : Int) := by omega
    have hr4 : (r : Int) < 14 := by omega
    have hA : IntKind.i64.wrap (128 + (r : Int)) = 128 + (r : Int) := by rw [IntKind.wrap_i64]; omega
    have hB : IntKind.u8.wrap (128 + (r : Int)) = 128 + (r : Int) := by rw [IntKind.wrap_u8]; omega
    have hC : IntKind.u8.wrap (yn : Int) = (yn : Int) := by rw [IntKind.wrap_u8]; omega
    have HSP : Hid (aloneOf old x = [128 + (r : Int), (yn : Int)]) := hid (by
      unfold aloneOf
      rw [if_pos h1, List.getD, hr1]
      simp only [Option.getD_some, Int.toNat_natCast]
      rw [List.getD, hy]; rfl)
    have H1 := hid h1; have HR1 := hid hr1; have HY := hid hy; clear h1 hr1 hy
    go_wp2_with fail
    go_region_held3 (fun w' => w'.cell? ⟨g, 0, none⟩ = some (.int .i64 (r : Int)) ∧ w'.cell? ⟨w.heap.size + 1, r, none⟩ = some (.int .i64 (yn : Int))) (go_keep) (fail)
    all_goals
      go_wp2
      go_ret
      refine ⟨.slice (some ⟨w2.heap.size, 0, none⟩) 2 2, rfl, ?_, (Below.grow HB2.out _).drew⟩
      rw [HSP.out]
      exact owns_built w2 w.heap.size 2 #[.int .u8 (128 + (r : Int)), .int .u8 (yn : Int)] 5 (by omega) (by unfold maxLen; omega) rfl
  · obtain ⟨A, cp, rfl, hA⟩ := owned_form HO.out
    have HA := hid hA; clear hA
    obtain ⟨n, hn⟩ : ∃ n, n = (diffs old x).length := ⟨_, rfl⟩
    rw [← hn] at HO HA h1 hdl
    have HN := hid hn
    have HML : Hid (maskL (diffs old x) < 16384) := hid (ups_diffs old x 14).1
    have hne : ((n : Int) == 1) = false := by rw [beq_eq_false_iff_ne]; omega
    have H1 := hid h1
    rw [← hn]
    clear hn h1
    go_wp2_with fail
    clear hne
    go_loop [6, 32] (fun m i => ∃ j : Nat, j ≤ n ∧ i = .int .i64 j ∧ m = .int .i64 (maskL ((diffs old x).take j) : Nat)) (fun _ i => n - (intOf i).toNat)
    case atStart => exact ⟨0, Nat.zero_le _, rfl, rfl⟩
    case round =>
      obtain ⟨j, hj, rfl, rfl⟩ := hrel
      by_cases hlt : j < n
      · obtain ⟨k, hk1, hk2, hk3, hk4⟩ := diffs_at (x := old) (y := x) (j := j) (by have := HN.out; omega)
        obtain ⟨g, rfl, _, _⟩ := HA.out (by omega)
        have hcj := own_at HO.out (icells_at hk1)
        have hj0 : (0 : Int) ≤ (j : Int) := by omega
        have hjn : (j : Int) < (n : Int) := by omega
        have hpw : 2 ^ k ≤ 2 ^ 13 := Nat.pow_le_pow_right (by decide) (by omega)
        have HOR : Hid (bits .or .i64 (maskL ((diffs old x).take j) : Nat) ((2 ^ k : Nat) : Int) = (maskL ((diffs old x).take (j + 1)) : Nat)) := hid (by rw [or_i64 _ _ (by omega) (by omega), or_pow _ _ hk3, hk4])
        have HW : Hid (wrap64 ((2 : Int) ^ k) = ((2 ^ k : Nat) : Int)) := hid (by
          have e : (2 : Int) ^ k = ((2 ^ k : Nat) : Int) := by simp
          rw [e]; unfold wrap64; omega)
        have HK1 := hid hk1; have HK3 := hid hk3; have HK4 := hid hk4; clear hk1 hk3 hk4 hpw
        generalize maskL ((diffs old x).take j) = M at *
        go_wp2
        go_round
        case rel => exact ⟨j + 1, by omega, by go_num, ret_cell (by rw [HW.out, HOR.out])⟩
        case measure => simp [intOf]; omega
      · obtain rfl : n = j := by omega
        have hM : List.take n (diffs old x) = diffs old x := by rw [HN.out, List.take_length]
        rw [hM]
        have hu1 : IntKind.u8.wrap (maskL (diffs old x) : Nat) = ((maskL (diffs old x) : Nat) : Int) % 256 := by rw [IntKind.wrap_u8]
        have hu2 : IntKind.u8.wrap ((maskL (diffs old x) : Nat) / 256 : Int) = ((maskL (diffs old x) : Nat) : Int) / 256 := by have h := HML.out; rw [IntKind.wrap_u8]; omega
        clear hM
        obtain ⟨M, hMM⟩ : ∃ M, M = maskL (diffs old x) := ⟨_, rfl⟩
        rw [← hMM] at hu1 hu2 HML
        have HMM := hid hMM
        rw [← hMM]
        clear hMM
        go_wp2_with fail
        generalize hw3 : (w2.alloc (Obj.cells #[Value.int IntKind.u8 192, Value.int IntKind.u8 ((M : Int) % 256), Value.int IntKind.u8 ((M : Int) / 256)] 5)) = w3
        have HO3 : Hid (w3.ownsRow w2.heap.size 5 1 (.slice (some ⟨w2.heap.size, 0, none⟩) 3 3) 3 (u8cells (manyTo M old x 0))) := hid (by
          rw [← hw3]
          exact owns_built w2 w2.heap.size 3 #[.int .u8 192, .int .u8 ((M : Int) % 256), .int .u8 ((M : Int) / 256)] 5 (Nat.le_refl _) (by unfold maxLen; omega) rfl)
        have HB23 : Hid (Below w2.heap.size w2 w3) := hid (by rw [← hw3]; exact Below.grow (Below.refl _ _) _)
        have HSP : Hid (aloneOf old x = [192, ((M : Int) % 256), ((M : Int) / 256)] ++ (diffs old x).map (fun r => x.getD r.toNat 0)) := hid (by
          rw [HMM.out]; unfold aloneOf; rw [if_neg (by have := H1.out; have := HN.out; omega)]; rfl)
        clear hw3 hu1 hu2
        go_loopw [9, 49] (fun v i wr => ∃ j : Nat, j ≤ n ∧ i = .int .i64 j ∧ Hid (wr.ownsRow w2.heap.size 5 1 v (j + 3) (u8cells (manyTo M old x j))) ∧ Hid (Below w2.heap.size w2 wr)) (fun _ i _ => n - (intOf i).toNat)
        case atStart => exact ⟨0, Nat.zero_le _, rfl, HO3, HB23⟩
        case round =>
          obtain ⟨j, hj, rfl, HOW, HBW2⟩ := hrel
          by_cases hlt : j < n
          · obtain ⟨k, hk1, hk2, _⟩ := diffs_at (x := old) (y := x) (j := j) (by have := HN.out; omega)
            obtain ⟨g, rfl, hg1, hg2⟩ := HA.out (by omega)
            have hcj := (HBW2.out.cell (p := ⟨g, j, none⟩) hg2).trans (own_at HO.out (icells_at hk1))
            obtain ⟨y, hy⟩ : ∃ y, x[k]? = some y := ⟨_, List.getElem?_eq_getElem (by have := HXL.out; omega)⟩
            obtain ⟨yn, rfl, hyn⟩ := right_nat HXR.out hy
            have hcy := (rangeAt_below' HRY.out HBW2.out (by omega)) k _ (icells_at hy)
            rw [Nat.zero_add] at hcy
            have hj0 : (0 : Int) ≤ (j : Int) := by omega
            have hjn : (j : Int) < (n : Int) := by omega
            have hr0 : (0 : Int) ≤ (k : Int) := by omega
            have hr4 : (k : Int) < 14 := by omega
            have hC : IntKind.u8.wrap (yn : Int) = (yn : Int) := by rw [IntKind.wrap_u8]; omega
            have HT : Hid (manyTo M old x (j + 1) = manyTo M old x j ++ [(yn : Int)]) := hid (by
              rw [manyTo, manyTo, List.append_assoc, List.take_add_one, hk1, Option.toList_some, List.map_append, List.map_singleton, Int.toNat_natCast, List.getD, hy]; rfl)
            have hws2 := HBW2.out.size
            have HLM : Hid (j + 3 + 1 ≤ maxLen) := hid (by unfold maxLen; omega)
            clear hk1 hy
            go_wp2_with (first | (at_builtin; refine wpList_append_own _ rfl _ _ 24 rfl w2.heap.size 5 i0 _ 1 1 Try.underlying24 HI.out HZ0.out HZ1.out HZ2.out rfl (by decide) u9 (j + 3) _ rfl (HOW.out.alloc _) _ 1 1 [.int .u8 (yn : Int)] rfl rfl (news_u8 _ _ _) (by simp [Value.oneCell']) HLM.out (by omega) (by simp; omega) ?_))
            intro v' w4 hown hg4 _
            have HO4 := hid hown
            have HB4 := hid (Below.grown (Below.grow HBW2.out (.cells #[.int .u8 (yn : Int)] 5)) hg4 (by simp; omega) (fun q hq => (HOW.out.lt q hq).1))
            clear hown hg4 HOW HBW2 hcj hcy
            go_wp2
            go_roundw
            case rel => exact ⟨j + 1, by omega, by go_num, hid (by rw [HT.out, u8cells_append, show j + 1 + 3 = j + 3 + 1 by omega]; exact HO4.out), HB4.out⟩
            case measure => simp [intOf]; omega
          · obtain rfl : n = j := by omega
            go_wp2
            go_ret
            refine ⟨_, rfl, ?_, HB2.out.trans (HBW2.out.mono (by omega))⟩
            have h := owned_base HOW.out (base' := w.heap.size) (by omega)
            have hM : List.take n (diffs old x) = diffs old x := by rw [HN.out, List.take_length]
            rw [manyTo, hM, ← HSP.out] at h
            have hl : n + 3 = (aloneOf old x).length := by rw [HSP.out]; have := HN.out; simp; omega
            rw [hl] at h
            exact h
end Go.Proofs.Ytmogoaceangblaa
