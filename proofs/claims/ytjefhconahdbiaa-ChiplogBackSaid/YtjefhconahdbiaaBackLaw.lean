/- ChiplogBack: a packed log is unpacked as it was, whatever bytes follow; all its bytes are used. -/
import Derived.Test.YtjefhconahdbiaaSmall
import Derived.Test.YtjefhconahdbiaaConcat
import Derived.Test.YtjefhconahdbiaaSameLog
import Derived.ChangeSlices
namespace Go.Proofs.Ytjefhconahdbiaa
open Go.RowKit

theorem cells5 : Try.prog.cellsOf 5 = 1 := by kernel_rfl
open Go.ChangeShapes Go.WideShapes Go.ChangeAt in
set_option maxRecDepth 100000 in
theorem open_bytes {H : Type} {enc : TypeId × Value → H} (W : World) (base : Nat) (v : Value) (d : DataW H) (p : List MemPlace)
    (ho : Value.okWide Try.prog W .any base 55 v) (h : DataW.Trod enc Try.prog W 0 (fun _ => true) true 55 v d p) :
    ∃ A L c, v = .slice A (List.length L) c ∧ BytesAt W A L ∧ (A = none → c = 0) ∧ (∀ x ∈ L, 0 ≤ x ∧ x < 256) := by
  obtain ⟨A, len, cap, rfl⟩ := okWide_slice Try.underlying55 ho
  obtain ⟨fuel, hf⟩ := h
  rcases open_ints Try.underlying55 Try.underlying5 cells5 hf with ⟨hcs, _⟩ | ⟨a, l, c, zs, hcs, _, hl, hm, hzl, _, hx, hwf⟩
  · simp [Value.cells] at hcs
    obtain ⟨rfl, rfl, rfl⟩ := hcs
    exact ⟨none, [], 0, rfl, fun h => absurd h (by simp), fun _ => rfl, by simp⟩
  · simp [Value.cells] at hcs
    obtain ⟨rfl, rfl, rfl⟩ := hcs
    simp only [if_true] at hzl
    have hlen : (zs.take len).length = len := by rw [List.length_take]; omega
    refine ⟨some a, zs.take len, cap, by rw [hlen], fun h0 => ?_, (fun e => by cases e), fun x hxm => ?_⟩
    · rw [hlen] at h0
      have hs0 : a.spot = none := by simpa [Addr.add] using cell_spot (hx 0 (by omega))
      refine ⟨a.block, a.off, congrArg some (add_plain a hs0), fun i hi => ?_⟩
      rw [hlen] at hi
      have h1 := hx i (by omega)
      rw [add_at _ hs0] at h1
      rw [h1, List.getD, List.getD, List.getElem?_take, if_pos hi]
    · have := hwf x (List.mem_of_mem_take hxm)
      simp [Lit.wf, IntKind.min, IntKind.max, IntKind.signed, IntKind.bits] at this
      omega
/-- Unpack of what Concat joined. -/
def Backed (xs : List (List Int)) (w : World) (e : Ending) (w' : World) : Prop :=
  ∃ B c, e = .returned (.tuple #[.slice B xs.length c, .int .i64 ((packed xs).length : Nat), .int .i64 0]) ∧ LogAt w' B xs ∧ Below w.heap.size w w'
theorem unpack_joined (w : World) (A : Option Addr) (cc : Nat) (xs : List (List Int)) (M : List Int) (hok : okLog xs = true) (hM : ∀ v ∈ M, 0 ≤ v ∧ v < 256) (hA : BytesAt w A (packed xs ++ M)) (hm : (packed xs ++ M).length ≤ 400000) :
    Calls Try.prog 34 #[.slice A (packed xs ++ M).length cc] w (Backed xs w) := by
  have hl := okLog_both hok
  have hpl := packed_length xs xs.length 0 (by omega)
  have hpos : 1 ≤ (packed xs).length := hpl.1
  obtain ⟨cs, h1, h2, h3⟩ := readAll_packed xs M hl.1 hl.2 hm
  refine (unpack_any w A cc (packed xs ++ M) hA (fun p o e => ?_) (fun v hv => ?_)).mono ?_
  · have hp : 0 < (packed xs ++ M).length := by rw [List.length_append]; omega
    obtain ⟨b, o', e', hc⟩ := hA hp
    rw [e] at e'
    cases e'
    exact World.block_lt_of_cell? w _ (hc 0 hp)
  · rcases List.mem_append.1 hv with h | h
    · exact packed_range (okLog_all hok) v h
    · exact hM v h
  · intro e w' h
    rw [h1] at h
    exact h
theorem unpack_joined' (w : World) (A : Option Addr) (cc : Nat) (xs : List (List Int)) (M J : List Int) (hJ : J = packed xs ++ M) (hok : okLog xs = true) (hM : ∀ v ∈ M, 0 ≤ v ∧ v < 256) (hA : BytesAt w A J) (hm : (packed xs ++ M).length ≤ 400000) :
    Calls Try.prog 34 #[.slice A J.length cc] w (Backed xs w) := by
  subst hJ
  exact unpack_joined w A cc xs M hok hM hA hm
set_option maxHeartbeats 4000000 in
set_option maxRecDepth 100000 in
theorem back_law (A : Option Addr) (xs : List (List Int)) (c : Nat) (w : World) (hx : LogAt w A xs) (A2 : Option Addr) (M : List Int) (c2 : Nat) (hM : BytesAt w A2 M) (hn : A2 = none → c2 = 0) (hr : ∀ v ∈ M, 0 ≤ v ∧ v < 256) :
    Calls Try.prog 14 #[.slice A xs.length c, .slice A2 M.length c2] w fun e w' => e = .returned (.bool true) ∧ Below w.heap.size w w' := by
  have HX := hid hx; have HM := hid hM; have HN := hid hn; have HR := hid hr; clear hx hM hn hr
  cases ht : tameLog xs with
  | false =>
    have HT := hid ht; clear ht
    go_enter Try.func14, Try.ntmps14
    go_wp2_with fail
    refine (tame_any A xs c _ HX.out).mono ?_
    rintro e w1 ⟨rfl, hb⟩
    rw [HT.out]
    have HB1 := hid hb; clear hb
    go_wp2
    go_ret
    exact ⟨rfl, HB1.out⟩
  | true =>
    cases hok : okLog xs with
    | false =>
      have HT := hid ht; clear ht
      have HK := hid hok; clear hok
      go_enter Try.func14, Try.ntmps14
      go_wp2_with fail
      refine (tame_any A xs c _ HX.out).mono ?_
      rintro e w1 ⟨rfl, hb⟩
      rw [HT.out]
      have HB1 := hid hb; clear hb
      go_wp2_with fail
      refine (refright_any A xs c _ (HX.out.below HB1.out)).mono ?_
      rintro e w2 ⟨rfl, hb⟩
      rw [HK.out]
      have HB2 := hid (Below.step HB1.out hb); clear hb
      go_wp2
      go_ret
      exact ⟨rfl, HB2.out⟩
    | true =>
      by_cases hm : M.length ≤ 1000
      · have hd : decide (1000 < (M.length : Int)) = false := decide_eq_false (by omega)
        have h6 : xs.length ≤ 600 := by unfold tameLog at ht; simp at ht; omega
        have hpl := packed_length xs xs.length 0 (by omega)
        have hpl1 : 1 ≤ (packed xs).length := hpl.1
        have hpl2 : (packed xs).length ≤ 17 * (xs.length - 0) + 1 := hpl.2
        have HT := hid ht; clear ht
        have HK := hid hok; clear hok
        have HM6 := hid hm
        have HP1 := hid hpl1
        have HPM : Hid ((packed xs).length + M.length ≤ 400000) := hid (by omega)
        have HPM2 : Hid ((packed xs ++ M).length ≤ 400000) := hid (by rw [List.length_append]; exact HPM.out)
        have H6 := hid h6
        clear hpl hpl1 hpl2 hm h6
        go_enter Try.func14, Try.ntmps14
        go_wp2_with fail
        refine (tame_any A xs c _ HX.out).mono ?_
        rintro e w1 ⟨rfl, hb⟩
        rw [HT.out]
        have HB1 := hid hb; clear hb
        go_wp2_with fail
        refine (refright_any A xs c _ (HX.out.below HB1.out)).mono ?_
        rintro e w2 ⟨rfl, hb⟩
        rw [HK.out]
        have HB2 := hid (Below.step HB1.out hb); clear hb
        go_wp2_with fail
        refine (pack_packed A xs c _ (HX.out.below HB2.out) HK.out).mono ?_
        rintro e w3 ⟨B3, c3, rfl, hB, hb⟩
        have HB3 := hid (Below.step HB2.out hb); have HA3 := hid hB; clear hb hB
        go_wp2_with fail
        have HBN : Hid (Below w3.heap.size w3 (w3.alloc (Obj.cells #[Value.slice B3 (packed xs).length c3, Value.slice A2 M.length c2] 55))) := hid (Below.grow (Below.refl _ _) _)
        have HNEW : Hid ((w3.alloc (Obj.cells #[Value.slice B3 (packed xs).length c3, Value.slice A2 M.length c2] 55)).heap[w3.heap.size]? = some (.cells #[Value.slice B3 (packed xs).length c3, Value.slice A2 M.length c2] 55 (0, 0))) := hid (heap_alloc_new _ _)
        refine (concat_any _ w3.heap.size 2 B3 A2 c3 c2 (packed xs) M (cell_of_cells (k := 0) HNEW.out rfl) (cell_of_cells (k := 1) HNEW.out rfl) (HA3.out.below HBN.out) (HM.out.below (Below.step HB3.out HBN.out)) HP1.out HPM.out HN.out).mono ?_
        rintro e w4 ⟨B4, c4, rfl, ha, hb⟩
        obtain ⟨J, hJ⟩ : ∃ J, J = packed xs ++ M := ⟨_, rfl⟩
        rw [← hJ] at ha ⊢
        have HJ := hid hJ; clear hJ
        have HB4 := hid (Below.step (Below.step HB3.out HBN.out) hb); have HA4 := hid ha; clear hb ha
        go_wp2_with fail
        refine (unpack_joined' w4 B4 c4 xs M J HJ.out HK.out HR.out HA4.out HPM2.out).mono ?_
        rintro e w5 ⟨B5, c5, rfl, hl5, hb⟩
        have HB5 := hid (Below.step HB4.out hb); have HL5 := hid hl5; clear hb hl5
        have hee : (((packed xs).length : Int) == ((packed xs).length : Int)) = true := by simp
        have HLE := hid hee; clear hee
        go_wp2_with fail
        refine (same_same B5 A xs c5 c w5 HL5.out (HX.out.below HB5.out) (by have := H6.out; omega) (fun z hz => by have := (okLog_both HK.out).2 z hz; omega)).mono ?_
        rintro e w6 ⟨rfl, hb⟩
        have HB6 := hid (Below.step HB5.out hb); clear hb
        go_wp2
        go_ret
        exact ⟨rfl, HB6.out⟩
      · have hd : decide (1000 < (M.length : Int)) = true := decide_eq_true (by omega)
        have HT := hid ht; clear ht
        have HK := hid hok; clear hok
        clear hm
        go_enter Try.func14, Try.ntmps14
        go_wp2_with fail
        refine (tame_any A xs c _ HX.out).mono ?_
        rintro e w1 ⟨rfl, hb⟩
        rw [HT.out]
        have HB1 := hid hb; clear hb
        go_wp2_with fail
        refine (refright_any A xs c _ (HX.out.below HB1.out)).mono ?_
        rintro e w2 ⟨rfl, hb⟩
        rw [HK.out]
        have HB2 := hid (Below.step HB1.out hb); clear hb
        go_wp2
        go_ret
        exact ⟨rfl, HB2.out⟩
open Go.ChangeShapes Go.WideShapes Go.ChangeAt in
set_option maxRecDepth 100000 in
theorem ChiplogBack_opened {H : Type} {enc : TypeId × Value → H} (W : World) (base : Nat) (v0 v1 : Value) {d0 d1 : DataW H} {p0 p1 : List MemPlace}
    (o0 : Value.okWide Try.prog W .any base 36 v0) (o1 : Value.okWide Try.prog W .any base 55 v1) (h0 : DataW.Trod enc Try.prog W 0 (fun _ => true) true 36 v0 d0 p0) (h1 : DataW.Trod enc Try.prog W 0 (fun _ => true) true 55 v1 d1 p1) :
    Calls Try.prog 14 #[v0, v1] W fun e w' => e = .returned (.bool true) ∧ Below W.heap.size W w' := by
  obtain ⟨A, xs, c, rfl, hx⟩ := open_log W base v0 d0 p0 o0 h0
  obtain ⟨A2, M, c2, rfl, hM, hn, hr⟩ := open_bytes W base v1 d1 p1 o1 h1
  exact back_law A xs c W hx A2 M c2 hM hn hr
end Go.Proofs.Ytjefhconahdbiaa
