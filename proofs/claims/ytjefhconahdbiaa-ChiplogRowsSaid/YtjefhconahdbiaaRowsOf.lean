/- chiplog.Rows writes the lines of a log. -/
import Derived.Test.YtjefhconahdbiaaBuilder
import Derived.Test.YtjefhconahdbiaaWrites
namespace Go.Proofs.Ytjefhconahdbiaa
open Go.RowKit

def hexd (n : Nat) : UInt8 := (#[48, 49, 50, 51, 52, 53, 54, 55, 56, 57, 65, 66, 67, 68, 69, 70] : Array UInt8).getD n 0
def rowTo (z : List Int) : Nat → List UInt8
  | 0 => []
  | n + 1 => rowTo z n ++ ((if n = 0 then [] else [32]) ++ [hexd ((z.getD n 0).toNat / 16), hexd ((z.getD n 0).toNat % 16)])
def linesTo (xs : List (List Int)) : Nat → List UInt8
  | 0 => []
  | k + 1 => linesTo xs k ++ (rowTo (xs.getD k []) 14 ++ [10])
theorem rowTo_len (z : List Int) (n : Nat) : (rowTo z n).length ≤ 3 * n := by
  induction n with
  | zero => exact Nat.le_refl _
  | succ n ih => unfold rowTo; split <;> simp <;> omega
theorem linesTo_len (xs : List (List Int)) (k : Nat) : (linesTo xs k).length ≤ 43 * k := by
  induction k with
  | zero => exact Nat.le_refl _
  | succ k ih => have := rowTo_len (xs.getD k []) 14; unfold linesTo; simp at this ⊢; omega
def Lined (xs : List (List Int)) (w : World) (e : Ending) (w' : World) : Prop :=
  e = .returned (.tuple #[.string ⟨(if okLog xs then linesTo xs xs.length else []).toArray⟩, .int .i64 (if okLog xs then 0 else 1)]) ∧ Below w.heap.size w w'
theorem lined_no {xs : List (List Int)} {w w' : World} (h : okLog xs = false) (hb : Below w.heap.size w w') : Lined xs w (.returned (.tuple #[.string ⟨#[]⟩, .int .i64 1])) w' := by
  unfold Lined; rw [h]; exact ⟨rfl, hb⟩
theorem lined_yes {xs : List (List Int)} {w w' : World} (h : okLog xs = true) (hb : Below w.heap.size w w') : Lined xs w (.returned (.tuple #[.string ⟨(linesTo xs xs.length).toArray⟩, .int .i64 0])) w' := by
  unfold Lined; rw [h]; exact ⟨rfl, hb⟩
theorem right_at {z : List Int} {j : Nat} {v : Int} (h : right z = true) (hv : z[j]? = some v) : ∃ n : Nat, v = n ∧ n < 256 := by
  unfold right at h
  rw [Bool.and_eq_true, List.all_eq_true] at h
  have := h.2 v (List.mem_of_getElem? hv)
  rw [inr_iff] at this
  exact ⟨v.toNat, by omega, by omega⟩
theorem okLog_right {xs : List (List Int)} (h : okLog xs = true) : ∀ z ∈ xs, right z = true := by
  intro z hz
  unfold okLog at h
  rw [Bool.and_eq_true, List.all_eq_true] at h
  exact h.2 z hz

theorem builderAt_alloc {T e : TypeId} {B b : Nat} {p : Value} {bs : List Value} {w : World} (h : Lib.BuilderAt T e B b p bs w) (o : Obj) : Lib.BuilderAt T e B b p bs (w.alloc o) := by
  have hlt := h.lt
  obtain ⟨hB, v, hb, ho, hn⟩ := h
  exact ⟨hB, v, by rw [Lib.alloc_old w o b hlt]; exact hb, ho.alloc o, hn⟩
theorem builder_alloc {T e : TypeId} {B b : Nat} {bs : List Value} {w : World} (h : Lib.IsBuilder T e B b bs w) (o : Obj) : Lib.IsBuilder T e B b bs (w.alloc o) :=
  h.elim (fun h => Or.inl (builderAt_alloc h o)) (fun h => Or.inr (builderAt_alloc h o))
abbrev digits : ByteArray := ⟨#[48, 49, 50, 51, 52, 53, 54, 55, 56, 57, 65, 66, 67, 68, 69, 70]⟩
theorem run_digits (w : World) : ∀ n : Nat, n < 16 → (Instr.index 9 (.string digits) (.int .i64 n)).run Try.prog w = .ok (.int .u8 (hexd n).toNat) w
  | 0, _ | 1, _ | 2, _ | 3, _ | 4, _ | 5, _ | 6, _ | 7, _ | 8, _ | 9, _ | 10, _ | 11, _ | 12, _ | 13, _ | 14, _ | 15, _ => by kernel_rfl
  | n + 16, h => by omega
theorem run_index75 (w : World) (cs : List Value) (j : Nat) (v : Value) (h : cs[j]? = some v) (hj : j < 14) : (Instr.index 75 (.agg cs.toArray) (.int .i64 j)).run Try.prog w = .ok v w := by
  have hs : (sizeOf 3).run Try.prog w = .ok 1 w := by kernel_rfl
  have h0 : (0 : Int) ≤ (j : Int) ∧ (j : Int) < 14 := by omega
  have hl : j < cs.length := (List.getElem?_eq_some_iff.1 h).1
  unfold Instr.index
  simp [Sem.run_bind, asIntOf, run_underlying Try.underlying75, h0, hs, part]
  rw [if_pos hj, h]
  rfl
theorem dig_eq (n : Nat) (h : n < digits.size) : (digits[n]'h) = hexd n := by
  have : ∀ n : Fin 16, (digits[n.1]'n.2) = hexd n.1 := by decide
  exact this ⟨n, h⟩
theorem row_cells (ls : List UInt8) (z : List Int) (j n : Nat) (hv : z[j]? = some (n : Int)) (h1 : n / 16 < digits.size) (h2 : n % 16 < digits.size) (hj : 0 < j) :
    Lib.byteCells (ls ++ rowTo z (j + 1)) = ((Lib.byteCells (ls ++ rowTo z j) ++ [.int .u8 32]) ++ [.int .u8 ((digits[n / 16]'h1).toNat : Int)]) ++ [.int .u8 ((digits[n % 16]'h2).toNat : Int)] := by
  rw [dig_eq, dig_eq, rowTo, if_neg (by omega), List.getD, hv]
  simp [Lib.byteCells]
theorem row_cells0 (ls : List UInt8) (z : List Int) (n : Nat) (hv : z[0]? = some (n : Int)) (h1 : n / 16 < digits.size) (h2 : n % 16 < digits.size) :
    Lib.byteCells (ls ++ rowTo z (0 + 1)) = (Lib.byteCells (ls ++ rowTo z 0) ++ [.int .u8 ((digits[n / 16]'h1).toNat : Int)]) ++ [.int .u8 ((digits[n % 16]'h2).toNat : Int)] := by
  rw [dig_eq, dig_eq]
  simp [Lib.byteCells, rowTo, hv]

set_option maxHeartbeats 4000000 in
set_option maxRecDepth 100000 in
theorem rows_any (A : Option Addr) (xs : List (List Int)) (c : Nat) (w : World) (hx : LogAt w A xs) :
    Calls Try.prog 26 #[.slice A xs.length c] w (Lined xs w) := by
  have HX := hid hx; clear hx
  cases hok : okLog xs with
  | false =>
    have HOK := hid hok; clear hok
    go_enter Try.func26, Try.ntmps26
    go_wp2_with fail
    refine (entries_any A xs c _ HX.out).mono ?_
    rintro e w1 ⟨v, rfl, -, hv, hb⟩
    rw [HOK.out]
    obtain rfl := hv HOK.out
    have HB1 := hid hb; clear hb
    go_wp2
    go_ret2
    exact lined_no HOK.out HB1.out
  | true =>
    have HN := hid (okLog_len hok)
    have H14 := hid (okLog_14 hok)
    have HRT := hid (okLog_right hok)
    have HOK := hid hok; clear hok
    go_enter Try.func26, Try.ntmps26
    go_wp2_with fail
    refine (entries_any A xs c _ HX.out).mono ?_
    rintro e w1 ⟨v, rfl, hv, -, hb⟩
    rw [HOK.out]
    obtain ⟨A', c', rfl, hent⟩ := hv HOK.out
    have HB1 := hid hb; clear hb
    have HE := hid hent; clear hent hv
    have hbw := HB1.out.size
    go_wp2
    go_loopg [20] xs.length (fun g i wr => ∃ k : Nat, k ≤ xs.length ∧ g = xs.length - k ∧ i = .int .i64 k ∧ Hid (Lib.IsBuilder 83 5 w1.heap.size w1.heap.size (Lib.byteCells (linesTo xs k)) wr) ∧ Hid (Below w1.heap.size w1 wr))
    case atStart => exact ⟨0, Nat.zero_le _, rfl, rfl, hid (Lib.fresh_isBuilder _ _ _), hid (Below.grow (Below.refl _ _) _)⟩
    case round =>
      obtain ⟨k, hk, rfl, rfl, HI, HB⟩ := hrel
      by_cases hlt : k < xs.length
      · obtain ⟨hl, b, rfl, hr⟩ := (HE.out.below HB.out) k (xs.getD k []) (by rw [List.getD, List.getElem?_eq_getElem hlt]; rfl)
        have HR := hid hr; have HL := hid hl; clear hr hl
        have HW : Hid (linesTo xs (k + 1) = linesTo xs k ++ (rowTo (xs.getD k []) 14 ++ [10])) := hid rfl
        have hwl := linesTo_len xs k
        have hk4 : k < 4000 := by have := HN.out; omega
        have HRZ : Hid (right (xs.getD k []) = true) := hid (HRT.out _ (by rw [List.getD, List.getElem?_eq_getElem hlt]; exact List.getElem_mem _))
        have HSZ : Hid ((Try.prog.info? 75).map (·.size) = some (icells (xs.getD k [])).length) := hid (by rw [icells_len, HL.out]; exact size75)
        have HNZ : Hid ((icells (xs.getD k [])).toArray.size = 14) := hid (by simp only [List.size_toArray]; rw [icells_len, HL.out])
        have HSA : Hid ((Try.prog.info? 75).map (·.size) = some (icells (xs.getD k [])).toArray.size) := hid (by rw [HNZ.out]; exact size75)
        have HON : Hid ((icells (xs.getD k [])).toArray.toList.all (·.oneCell') = true) := hid (by simp; exact icells_one _)
        have HWL := hid hwl; clear hwl
        generalize linesTo xs k = ls at *
        generalize xs.getD k [] = z at *
        have hk0 : (0 : Int) ≤ (k : Int) := Int.natCast_nonneg _
        have hk1 : (k : Int) < (xs.length : Int) := by omega
        have HNEW : Hid ((wr.alloc (.cells (icells z).toArray 75)).rangeAt wr.heap.size 0 (icells z)) := hid (by simpa using range_made wr (icells z).toArray 75)
        go_wp2_with (first | (refine wpList_load_mid rfl 75 _ rfl b (k * 14) rfl (icells z) _ HR.out Try.underlying75 rfl HSZ.out ?_) | (refine wpList_load_mid rfl 75 _ rfl wr.heap.size 0 rfl (icells z) _ HNEW.out Try.underlying75 rfl HSZ.out ?_) | (refine wpList_store_new rfl 75 _ _ rfl _ (icells z).toArray rfl rfl HSA.out (by rw [HNZ.out]; rfl) HON.out ?_))
        have HI2 : Hid (Lib.IsBuilder 83 5 w1.heap.size w1.heap.size (Lib.byteCells ls) (wr.alloc (.cells (icells z).toArray 75))) := hid (builder_alloc HI.out _)
        have HB2 := hid (Below.grow HB.out (.cells (icells z).toArray 75))
        clear HNEW HI HB HR
        generalize (wr.alloc (Obj.cells (icells z).toArray 75)) = w2 at *
        go_loopg [25] 14 (fun g i wi => ∃ j : Nat, j ≤ 14 ∧ g = 14 - j ∧ i = .int .i64 j ∧ Hid (Lib.IsBuilder 83 5 w1.heap.size w1.heap.size (Lib.byteCells (ls ++ rowTo z j)) wi) ∧ Hid (Below w1.heap.size w1 wi))
        case atStart => exact ⟨0, by omega, rfl, rfl, hid (by rw [rowTo, List.append_nil]; exact HI2.out), HB2⟩
        case round =>
          obtain ⟨j, hj, rfl, rfl, HI, HB⟩ := hrel
          clear HI2 HB2
          by_cases hjl : j < 14
          · obtain ⟨v, hv⟩ : ∃ v, z[j]? = some v := ⟨_, List.getElem?_eq_getElem (by have := HL.out; omega)⟩
            obtain ⟨n, rfl, hn⟩ := right_at HRZ.out hv
            have hj0 : (0 : Int) ≤ (j : Int) := Int.natCast_nonneg _
            have hj1 : (j : Int) < 14 := by omega
            have hix : ∀ w, (Instr.index 75 (.agg (icells z).toArray) (.int .i64 j)).run Try.prog w = .ok (.int .i64 n) w := fun w => run_index75 w _ j _ (icells_at hv) hjl
            have HV := hid hv; clear hv
            have hsz := HB.out.size
            have HLEN : Hid ((Lib.byteCells (ls ++ rowTo z j)).length ≤ 200000) := hid (by
              have := HWL.out; have := rowTo_len z j
              rw [Lib.byteCells_length, List.length_append]; omega)
            have hq : (n : Int) / 16 < 16 := by omega
            have hq0 : (0 : Int) ≤ (n : Int) / 16 := by omega
            have hr : (n : Int) % 16 < 16 := by omega
            have hr0 : (0 : Int) ≤ (n : Int) % 16 := by omega
            by_cases hj00 : j = 0
            · subst hj00
              have hix0 : ∀ w, (Instr.index 75 (.agg (icells z).toArray) (.int .i64 0)).run Try.prog w = .ok (.int .i64 n) w := hix
              clear hix
              go_wp2_with fail
              refine (writeByte _ _ _ _ _ HI.out (by have := HLEN.out; omega) hsz).mono ?_
              rintro e w3 ⟨rfl, hba, hb⟩
              have HI3 := hid (Or.inr hba : Lib.IsBuilder _ _ _ _ _ _); have HB3 := hid (HB.out.trans hb); clear hba hb
              have hsz3 := HB3.out.size
              go_wp2_with fail
              refine (writeByte _ _ _ _ _ HI3.out (by have := HLEN.out; simp at this ⊢; omega) hsz3).mono ?_
              rintro e w4 ⟨rfl, hba, hb⟩
              have HI4 := hid (Or.inr hba : Lib.IsBuilder _ _ _ _ _ _); have HB4 := hid (HB3.out.trans hb); clear hba hb
              go_wp2
              go_roundg (14 - (0 + 1))
              case measure => omega
              case rel => exact ⟨0 + 1, by omega, rfl, by go_num, hid (by rw [row_cells0 ls z n HV.out (by show _ < 16; omega) (by show _ < 16; omega)]; exact HI4.out), HB4.out⟩
            · have hjp : (0 : Int) < (j : Int) := by omega
              have H00 := hid hj00; clear hj00
              go_wp2_with fail
              refine (writeByte _ _ _ _ _ HI.out (by have := HLEN.out; omega) hsz).mono ?_
              rintro e w5 ⟨rfl, hba, hb⟩
              have HI5 := hid (Or.inr hba : Lib.IsBuilder _ _ _ _ _ _); have HB5 := hid (HB.out.trans hb); clear hba hb
              have hsz5 := HB5.out.size
              go_wp2_with fail
              refine (writeByte _ _ _ _ _ HI5.out (by have := HLEN.out; simp at this ⊢; omega) hsz5).mono ?_
              rintro e w3 ⟨rfl, hba, hb⟩
              have HI3 := hid (Or.inr hba : Lib.IsBuilder _ _ _ _ _ _); have HB3 := hid (HB5.out.trans hb); clear hba hb
              have hsz3 := HB3.out.size
              go_wp2_with fail
              refine (writeByte _ _ _ _ _ HI3.out (by have := HLEN.out; simp at this ⊢; omega) hsz3).mono ?_
              rintro e w4 ⟨rfl, hba, hb⟩
              have HI4 := hid (Or.inr hba : Lib.IsBuilder _ _ _ _ _ _); have HB4 := hid (HB3.out.trans hb); clear hba hb
              go_wp2
              go_roundg (14 - (j + 1))
              case measure => omega
              case rel => exact ⟨j + 1, by omega, rfl, by go_num, hid (by rw [row_cells ls z j n HV.out (by show _ < 16; omega) (by show _ < 16; omega) (by omega)]; exact HI4.out), HB4.out⟩
          · obtain rfl : j = 14 := by omega
            have hsz := HB.out.size
            have HLEN : Hid ((Lib.byteCells (ls ++ rowTo z 14)).length ≤ 200000) := hid (by
              have := HWL.out; have := rowTo_len z 14
              rw [Lib.byteCells_length, List.length_append]; omega)
            go_wp2_with fail
            refine (writeByte _ _ _ _ _ HI.out (by have := HLEN.out; omega) hsz).mono ?_
            rintro e w3 ⟨rfl, hba, hb⟩
            have HI3 := hid (Or.inr hba : Lib.IsBuilder _ _ _ _ _ _); have HB3 := hid (HB.out.trans hb); clear hba hb
            go_wp2
            go_roundg (xs.length - (k + 1))
            case measure => omega
            case rel => exact ⟨k + 1, by omega, rfl, by go_num, hid (by rw [HW.out, ← List.append_assoc, Lib.byteCells_append]; exact HI3.out), HB3.out⟩
      · obtain rfl : k = xs.length := by omega
        have hsz := HB.out.size
        go_wp2_with fail
        refine (Try.Builder_String_any _ _ _ _ HI.out hsz).mono ?_
        rintro e w3 ⟨rfl, hb⟩
        have HB3 := hid (HB1.out.trans (Below.mono (HB.out.trans hb) HB1.out.size)); clear hb
        go_wp2
        go_ret2
        exact lined_yes HOK.out HB3.out
end Go.Proofs.Ytjefhconahdbiaa
