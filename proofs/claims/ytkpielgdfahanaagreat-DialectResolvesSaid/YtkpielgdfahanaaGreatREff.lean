/- The reference's effect: every dialect's effects by their letters. -/
import Derived.Test.YtkpielgdfahanaaGreatR44
import Derived.Test.YtkpielgdfahanaaGreatR45
import Derived.Test.YtkpielgdfahanaaGreatR46
import Derived.Test.YtkpielgdfahanaaGreatR47
import Derived.Test.YtkpielgdfahanaaGreatR48
import Derived.Test.YtkpielgdfahanaaGreatPRes
namespace Go.Proofs.YtkpielgdfahanaaGreat
open Go.RowKit Go.Maps
section
variable {b base : Nat} {d : Int} {s : St} {v : Value} {w : World}
theorem let1 {c : Int} (h : hasL (letS 1).data.toList c = true) : c = 48 ∨ c = 49 ∨ c = 50 ∨ c = 51 ∨ c = 52 ∨ c = 53 ∨ c = 54 ∨ c = 55 ∨ c = 56 ∨ c = 57 ∨ c = 65 ∨ c = 66 ∨ c = 67 ∨ c = 68 ∨ c = 69 ∨ c = 70 := by
  have h2 : hasL [48, 49, 50, 51, 52, 53, 54, 55, 56, 57, 65, 66, 67, 68, 69, 70] c = true := h
  simp only [hasL, List.any_cons, List.any_nil, Bool.or_eq_true, beq_iff_eq, Bool.or_false] at h2
  rcases h2 with h2 | h2 | h2 | h2 | h2 | h2 | h2 | h2 | h2 | h2 | h2 | h2 | h2 | h2 | h2 | h2
  all_goals (replace h2 := h2.symm; simp at h2; omega)
theorem r43_all {c : Int} (hc : hasL (letS 1).data.toList c = true) (h : RAt b base s v w) (hs : s.Ok 15) : Calls Tryz.prog 43 #[.pointer (some ⟨b, 0, none⟩), .int .u8 c] w (RRan b base (runE (dialG 1 c) s) v w) := by
  rcases let1 hc with rfl | rfl | rfl | rfl | rfl | rfl | rfl | rfl | rfl | rfl | rfl | rfl | rfl | rfl | rfl | rfl
  · exact r43_48 h hs
  · exact r43_49 h hs
  · exact r43_50 h hs
  · exact r43_51 h hs
  · exact r43_52 h hs
  · exact r43_53 h hs
  · exact r43_54 h hs
  · exact r43_55 h hs
  · exact r43_56 h hs
  · exact r43_57 h hs
  · exact r43_65 h hs
  · exact r43_66 h hs
  · exact r43_67 h hs
  · exact r43_68 h hs
  · exact r43_69 h (hs.more (by decide))
  · exact r43_70 h hs
theorem let2 {c : Int} (h : hasL (letS 2).data.toList c = true) : c = 65 ∨ c = 66 ∨ c = 67 ∨ c = 68 ∨ c = 69 ∨ c = 70 ∨ c = 71 ∨ c = 72 ∨ c = 73 ∨ c = 74 ∨ c = 75 ∨ c = 76 ∨ c = 79 ∨ c = 81 ∨ c = 82 ∨ c = 83 ∨ c = 84 ∨ c = 85 ∨ c = 86 ∨ c = 88 := by
  have h2 : hasL [65, 66, 67, 68, 69, 70, 71, 72, 73, 74, 75, 76, 79, 81, 82, 83, 84, 85, 86, 88] c = true := h
  simp only [hasL, List.any_cons, List.any_nil, Bool.or_eq_true, beq_iff_eq, Bool.or_false] at h2
  rcases h2 with h2 | h2 | h2 | h2 | h2 | h2 | h2 | h2 | h2 | h2 | h2 | h2 | h2 | h2 | h2 | h2 | h2 | h2 | h2 | h2
  all_goals (replace h2 := h2.symm; simp at h2; omega)
theorem r44_all {c : Int} (hc : hasL (letS 2).data.toList c = true) (h : RAt b base s v w) (hs : s.Ok 15) : Calls Tryz.prog 44 #[.pointer (some ⟨b, 0, none⟩), .int .u8 c] w (RRan b base (runE (dialG 2 c) s) v w) := by
  rcases let2 hc with rfl | rfl | rfl | rfl | rfl | rfl | rfl | rfl | rfl | rfl | rfl | rfl | rfl | rfl | rfl | rfl | rfl | rfl | rfl | rfl
  · exact r44_65 h hs
  · exact r44_66 h hs
  · exact r44_67 h hs
  · exact r44_68 h hs
  · exact r44_69 h hs
  · exact r44_70 h hs
  · exact r44_71 h hs
  · exact r44_72 h hs
  · exact r44_73 h hs
  · exact r44_74 h hs
  · exact r44_75 h hs
  · exact r44_76 h hs
  · exact r44_79 h hs
  · exact r44_81 h hs
  · exact r44_82 h hs
  · exact r44_83 h hs
  · exact r44_84 h hs
  · exact r44_85 h hs
  · exact r44_86 h hs
  · exact r44_88 h hs
theorem let3 {c : Int} (h : hasL (letS 3).data.toList c = true) : c = 48 ∨ c = 49 ∨ c = 50 ∨ c = 51 ∨ c = 52 ∨ c = 53 ∨ c = 54 ∨ c = 55 ∨ c = 56 ∨ c = 57 ∨ c = 65 ∨ c = 66 ∨ c = 67 ∨ c = 68 ∨ c = 69 ∨ c = 70 ∨ c = 71 ∨ c = 72 ∨ c = 75 ∨ c = 76 ∨ c = 80 ∨ c = 82 ∨ c = 84 ∨ c = 88 := by
  have h2 : hasL [48, 49, 50, 51, 52, 53, 54, 55, 56, 57, 65, 66, 67, 68, 69, 70, 71, 72, 75, 76, 80, 82, 84, 88] c = true := h
  simp only [hasL, List.any_cons, List.any_nil, Bool.or_eq_true, beq_iff_eq, Bool.or_false] at h2
  rcases h2 with h2 | h2 | h2 | h2 | h2 | h2 | h2 | h2 | h2 | h2 | h2 | h2 | h2 | h2 | h2 | h2 | h2 | h2 | h2 | h2 | h2 | h2 | h2 | h2
  all_goals (replace h2 := h2.symm; simp at h2; omega)
theorem r45_all {c : Int} (hc : hasL (letS 3).data.toList c = true) (h : RAt b base s v w) (hs : s.Ok 15) : Calls Tryz.prog 45 #[.pointer (some ⟨b, 0, none⟩), .int .u8 c] w (RRan b base (runE (dialG 3 c) s) v w) := by
  rcases let3 hc with rfl | rfl | rfl | rfl | rfl | rfl | rfl | rfl | rfl | rfl | rfl | rfl | rfl | rfl | rfl | rfl | rfl | rfl | rfl | rfl | rfl | rfl | rfl | rfl
  · exact r45_48 h hs
  · exact r45_49 h hs
  · exact r45_50 h hs
  · exact r45_51 h hs
  · exact r45_52 h hs
  · exact r45_53 h hs
  · exact r45_54 h hs
  · exact r45_55 h hs
  · exact r45_56 h hs
  · exact r45_57 h hs
  · exact r45_65 h hs
  · exact r45_66 h hs
  · exact r45_67 h hs
  · exact r45_68 h hs
  · exact r45_69 h hs
  · exact r45_70 h hs
  · exact r45_71 h hs
  · exact r45_72 h hs
  · exact r45_75 h hs
  · exact r45_76 h hs
  · exact r45_80 h hs
  · exact r45_82 h hs
  · exact r45_84 h hs
  · exact r45_88 h hs
theorem let4 {c : Int} (h : hasL (letS 4).data.toList c = true) : c = 65 ∨ c = 66 ∨ c = 67 ∨ c = 68 ∨ c = 69 ∨ c = 70 ∨ c = 71 ∨ c = 72 ∨ c = 73 ∨ c = 74 ∨ c = 75 ∨ c = 76 ∨ c = 77 ∨ c = 78 ∨ c = 79 ∨ c = 80 ∨ c = 81 ∨ c = 82 ∨ c = 83 ∨ c = 84 ∨ c = 85 ∨ c = 86 ∨ c = 87 ∨ c = 88 ∨ c = 89 ∨ c = 90 := by
  have h2 : hasL [65, 66, 67, 68, 69, 70, 71, 72, 73, 74, 75, 76, 77, 78, 79, 80, 81, 82, 83, 84, 85, 86, 87, 88, 89, 90] c = true := h
  simp only [hasL, List.any_cons, List.any_nil, Bool.or_eq_true, beq_iff_eq, Bool.or_false] at h2
  rcases h2 with h2 | h2 | h2 | h2 | h2 | h2 | h2 | h2 | h2 | h2 | h2 | h2 | h2 | h2 | h2 | h2 | h2 | h2 | h2 | h2 | h2 | h2 | h2 | h2 | h2 | h2
  all_goals (replace h2 := h2.symm; simp at h2; omega)
theorem r46_all {c : Int} (hc : hasL (letS 4).data.toList c = true) (h : RAt b base s v w) (hs : s.Ok 15) : Calls Tryz.prog 46 #[.pointer (some ⟨b, 0, none⟩), .int .u8 c] w (RRan b base (runE (dialG 4 c) s) v w) := by
  rcases let4 hc with rfl | rfl | rfl | rfl | rfl | rfl | rfl | rfl | rfl | rfl | rfl | rfl | rfl | rfl | rfl | rfl | rfl | rfl | rfl | rfl | rfl | rfl | rfl | rfl | rfl | rfl
  · exact r46_65 h hs
  · exact r46_66 h hs
  · exact r46_67 h hs
  · exact r46_68 h hs
  · exact r46_69 h hs
  · exact r46_70 h hs
  · exact r46_71 h hs
  · exact r46_72 h hs
  · exact r46_73 h hs
  · exact r46_74 h hs
  · exact r46_75 h hs
  · exact r46_76 h hs
  · exact r46_77 h hs
  · exact r46_78 h hs
  · exact r46_79 h hs
  · exact r46_80 h hs
  · exact r46_81 h hs
  · exact r46_82 h hs
  · exact r46_83 h hs
  · exact r46_84 h hs
  · exact r46_85 h hs
  · exact r46_86 h hs
  · exact r46_87 h hs
  · exact r46_88 h hs
  · exact r46_89 h hs
  · exact r46_90 h hs
theorem let5 {c : Int} (h : hasL (letS 5).data.toList c = true) : c = 48 ∨ c = 49 ∨ c = 50 ∨ c = 51 ∨ c = 52 ∨ c = 53 := by
  have h2 : hasL [48, 49, 50, 51, 52, 53] c = true := h
  simp only [hasL, List.any_cons, List.any_nil, Bool.or_eq_true, beq_iff_eq, Bool.or_false] at h2
  rcases h2 with h2 | h2 | h2 | h2 | h2 | h2
  all_goals (replace h2 := h2.symm; simp at h2; omega)
theorem let6 {c : Int} (h : hasL (letS 6).data.toList c = true) : c = 48 ∨ c = 49 ∨ c = 50 ∨ c = 51 ∨ c = 52 ∨ c = 65 ∨ c = 66 ∨ c = 67 ∨ c = 68 ∨ c = 69 ∨ c = 70 ∨ c = 78 ∨ c = 83 := by
  have h2 : hasL [48, 49, 50, 51, 52, 65, 66, 67, 68, 69, 70, 78, 83] c = true := h
  simp only [hasL, List.any_cons, List.any_nil, Bool.or_eq_true, beq_iff_eq, Bool.or_false] at h2
  rcases h2 with h2 | h2 | h2 | h2 | h2 | h2 | h2 | h2 | h2 | h2 | h2 | h2 | h2
  all_goals (replace h2 := h2.symm; simp at h2; omega)
theorem r48_all {c : Int} (hc : hasL (letS 6).data.toList c = true) (h : RAt b base s v w) (hs : s.Ok 15) : Calls Tryz.prog 48 #[.pointer (some ⟨b, 0, none⟩), .int .u8 c] w (RRan b base (runE (dialG 6 c) s) v w) := by
  rcases let6 hc with rfl | rfl | rfl | rfl | rfl | rfl | rfl | rfl | rfl | rfl | rfl | rfl | rfl
  · exact r48_48 h hs
  · exact r48_49 h hs
  · exact r48_50 h hs
  · exact r48_51 h hs
  · exact r48_52 h hs
  · exact r48_65 h hs
  · exact r48_66 h hs
  · exact r48_67 h hs
  · exact r48_68 h hs
  · exact r48_69 h hs
  · exact r48_70 h hs
  · exact r48_78 h hs
  · exact r48_83 h hs
set_option maxHeartbeats 4000000 in
set_option maxRecDepth 100000 in
/-- A letter that compose does not have asks for nothing. -/
theorem r47_other {c : Int} (n0 : c ≠ 48) (n1 : c ≠ 49) (n2 : c ≠ 50) (n3 : c ≠ 51) (n4 : c ≠ 52) (n5 : c ≠ 53) (h : RAt b base s v w) : Calls Tryz.prog 47 #[.pointer (some ⟨b, 0, none⟩), .int .u8 c] w (RRan b base s v w) := by
  have cp := h.cp
  have t0 := beq_false n0
  have t1 := beq_false n1
  have t2 := beq_false n2
  have t3 := beq_false n3
  have t4 := beq_false n4
  have t5 := beq_false n5
  have u3 : (c != 51) = true := bne_iff_ne.2 n3
  have H := hid h
  clear h n0 n1 n2 n3 n4 n5
  by_cases hp : s.p = 0
  · have tp := beq_true hp
    clear hp
    go_enter Tryz.func47, Tryz.ntmps47
    go_wp2
    go_end0
    exact ⟨rfl, _, H.out, Steps.refl b v w⟩
  · have tp := beq_false hp
    clear hp
    go_enter Tryz.func47, Tryz.ntmps47
    go_wp2
    go_end0
    exact ⟨rfl, _, H.out, Steps.refl b v w⟩
theorem compR_other {c : Int} (n0 : c ≠ 48) (n1 : c ≠ 49) (n2 : c ≠ 50) (n3 : c ≠ 51) (n4 : c ≠ 52) (n5 : c ≠ 53) (s : St) : compR c s = s := by
  have : dialG 5 c = .nil := by show composeE c = .nil; unfold composeE upd; rw [if_neg n5, if_neg n4, if_neg n3, if_neg n2, if_neg n1, if_neg n0]
  unfold compR
  rw [if_neg n3, this]
  split <;> rfl
theorem r47_all (c : Int) (h : RAt b base s v w) (hs : s.Ok 15) : Calls Tryz.prog 47 #[.pointer (some ⟨b, 0, none⟩), .int .u8 c] w (RRan b base (compR c s) v w) := by
  by_cases n0 : c = 48
  · subst n0; exact r47_48 h hs
  by_cases n1 : c = 49
  · subst n1; exact r47_49 h hs
  by_cases n2 : c = 50
  · subst n2; exact r47_50 h hs
  by_cases n3 : c = 51
  · subst n3; exact r47_51 h hs
  by_cases n4 : c = 52
  · subst n4; exact r47_52 h hs
  by_cases n5 : c = 53
  · subst n5; exact r47_53 h hs
  rw [compR_other n0 n1 n2 n3 n4 n5]
  exact r47_other n0 n1 n2 n3 n4 n5 h
/-- What an effect does in the reference. -/
def effR (d n p : Int) (s : St) : St := if d = 5 then compR (letN n) (s.put p) else runE (dialG d (letN n)) (s.put p)
set_option maxHeartbeats 4000000 in
set_option maxRecDepth 100000 in
theorem reff1 (n p : Int) (n1 : 1 ≤ n) (n2 : n ≤ 36) (p0 : 0 ≤ p) (p1 : p ≤ 255) (hL : hasL (letS 1).data.toList (letN n) = true) (h : RAt b base s v w) (hm : Mid s) : Calls Tryz.prog 33 #[.pointer (some ⟨b, 0, none⟩), .int .i64 1, .int .i64 n, .int .i64 p] w (RRan b base (runE (dialG 1 (letN n)) (s.put p)) v w) := by
  have H := hid h
  have HS := hid (hm.put p0 p1)
  have HP := hid (And.intro p0 p1)
  have HN := hid (And.intro n1 n2)
  have HL := hid hL
  clear h hm p0 p1 n1 n2 hL
  go_enter Tryz.func33, Tryz.ntmps33
  go_wp2_with fail
  go_at_call 40
  refine (rput p H.out HP.out.1 HP.out.2).mono ?_
  rintro e w1 ⟨rfl, v1, k, g⟩
  replace H := hid k
  have G := hid g
  clear k g
  go_wp2_with fail
  go_at_call 28
  refine (rlet_any n HN.out.1 HN.out.2 _).mono ?_
  rintro e w2 ⟨rfl, rfl⟩
  generalize letN n = c at *
  go_wp2_with fail
  go_at_call 43
  refine (r43_all HL.out H.out HS.out).mono ?_
  rintro e w2 ⟨rfl, v2, k, g⟩
  replace H := hid k
  replace G := hid (G.out.trans g)
  clear k g
  go_wp2
  go_end0
  exact ⟨rfl, _, H.out, G.out⟩
set_option maxHeartbeats 4000000 in
set_option maxRecDepth 100000 in
theorem reff2 (n p : Int) (n1 : 1 ≤ n) (n2 : n ≤ 36) (p0 : 0 ≤ p) (p1 : p ≤ 255) (hL : hasL (letS 2).data.toList (letN n) = true) (h : RAt b base s v w) (hm : Mid s) : Calls Tryz.prog 33 #[.pointer (some ⟨b, 0, none⟩), .int .i64 2, .int .i64 n, .int .i64 p] w (RRan b base (runE (dialG 2 (letN n)) (s.put p)) v w) := by
  have H := hid h
  have HS := hid (hm.put p0 p1)
  have HP := hid (And.intro p0 p1)
  have HN := hid (And.intro n1 n2)
  have HL := hid hL
  clear h hm p0 p1 n1 n2 hL
  go_enter Tryz.func33, Tryz.ntmps33
  go_wp2_with fail
  go_at_call 40
  refine (rput p H.out HP.out.1 HP.out.2).mono ?_
  rintro e w1 ⟨rfl, v1, k, g⟩
  replace H := hid k
  have G := hid g
  clear k g
  go_wp2_with fail
  go_at_call 28
  refine (rlet_any n HN.out.1 HN.out.2 _).mono ?_
  rintro e w2 ⟨rfl, rfl⟩
  generalize letN n = c at *
  go_wp2_with fail
  go_at_call 44
  refine (r44_all HL.out H.out HS.out).mono ?_
  rintro e w2 ⟨rfl, v2, k, g⟩
  replace H := hid k
  replace G := hid (G.out.trans g)
  clear k g
  go_wp2
  go_end0
  exact ⟨rfl, _, H.out, G.out⟩
set_option maxHeartbeats 4000000 in
set_option maxRecDepth 100000 in
theorem reff3 (n p : Int) (n1 : 1 ≤ n) (n2 : n ≤ 36) (p0 : 0 ≤ p) (p1 : p ≤ 255) (hL : hasL (letS 3).data.toList (letN n) = true) (h : RAt b base s v w) (hm : Mid s) : Calls Tryz.prog 33 #[.pointer (some ⟨b, 0, none⟩), .int .i64 3, .int .i64 n, .int .i64 p] w (RRan b base (runE (dialG 3 (letN n)) (s.put p)) v w) := by
  have H := hid h
  have HS := hid (hm.put p0 p1)
  have HP := hid (And.intro p0 p1)
  have HN := hid (And.intro n1 n2)
  have HL := hid hL
  clear h hm p0 p1 n1 n2 hL
  go_enter Tryz.func33, Tryz.ntmps33
  go_wp2_with fail
  go_at_call 40
  refine (rput p H.out HP.out.1 HP.out.2).mono ?_
  rintro e w1 ⟨rfl, v1, k, g⟩
  replace H := hid k
  have G := hid g
  clear k g
  go_wp2_with fail
  go_at_call 28
  refine (rlet_any n HN.out.1 HN.out.2 _).mono ?_
  rintro e w2 ⟨rfl, rfl⟩
  generalize letN n = c at *
  go_wp2_with fail
  go_at_call 45
  refine (r45_all HL.out H.out HS.out).mono ?_
  rintro e w2 ⟨rfl, v2, k, g⟩
  replace H := hid k
  replace G := hid (G.out.trans g)
  clear k g
  go_wp2
  go_end0
  exact ⟨rfl, _, H.out, G.out⟩
set_option maxHeartbeats 4000000 in
set_option maxRecDepth 100000 in
theorem reff4 (n p : Int) (n1 : 1 ≤ n) (n2 : n ≤ 36) (p0 : 0 ≤ p) (p1 : p ≤ 255) (hL : hasL (letS 4).data.toList (letN n) = true) (h : RAt b base s v w) (hm : Mid s) : Calls Tryz.prog 33 #[.pointer (some ⟨b, 0, none⟩), .int .i64 4, .int .i64 n, .int .i64 p] w (RRan b base (runE (dialG 4 (letN n)) (s.put p)) v w) := by
  have H := hid h
  have HS := hid (hm.put p0 p1)
  have HP := hid (And.intro p0 p1)
  have HN := hid (And.intro n1 n2)
  have HL := hid hL
  clear h hm p0 p1 n1 n2 hL
  go_enter Tryz.func33, Tryz.ntmps33
  go_wp2_with fail
  go_at_call 40
  refine (rput p H.out HP.out.1 HP.out.2).mono ?_
  rintro e w1 ⟨rfl, v1, k, g⟩
  replace H := hid k
  have G := hid g
  clear k g
  go_wp2_with fail
  go_at_call 28
  refine (rlet_any n HN.out.1 HN.out.2 _).mono ?_
  rintro e w2 ⟨rfl, rfl⟩
  generalize letN n = c at *
  go_wp2_with fail
  go_at_call 46
  refine (r46_all HL.out H.out HS.out).mono ?_
  rintro e w2 ⟨rfl, v2, k, g⟩
  replace H := hid k
  replace G := hid (G.out.trans g)
  clear k g
  go_wp2
  go_end0
  exact ⟨rfl, _, H.out, G.out⟩
set_option maxHeartbeats 4000000 in
set_option maxRecDepth 100000 in
theorem reff5 (n p : Int) (n1 : 1 ≤ n) (n2 : n ≤ 36) (p0 : 0 ≤ p) (p1 : p ≤ 255) (h : RAt b base s v w) (hm : Mid s) : Calls Tryz.prog 33 #[.pointer (some ⟨b, 0, none⟩), .int .i64 5, .int .i64 n, .int .i64 p] w (RRan b base (compR (letN n) (s.put p)) v w) := by
  have H := hid h
  have HS := hid (hm.put p0 p1)
  have HP := hid (And.intro p0 p1)
  have HN := hid (And.intro n1 n2)
  clear h hm p0 p1 n1 n2
  go_enter Tryz.func33, Tryz.ntmps33
  go_wp2_with fail
  go_at_call 40
  refine (rput p H.out HP.out.1 HP.out.2).mono ?_
  rintro e w1 ⟨rfl, v1, k, g⟩
  replace H := hid k
  have G := hid g
  clear k g
  go_wp2_with fail
  go_at_call 28
  refine (rlet_any n HN.out.1 HN.out.2 _).mono ?_
  rintro e w2 ⟨rfl, rfl⟩
  generalize letN n = c at *
  go_wp2_with fail
  go_at_call 47
  refine (r47_all c H.out HS.out).mono ?_
  rintro e w2 ⟨rfl, v2, k, g⟩
  replace H := hid k
  replace G := hid (G.out.trans g)
  clear k g
  go_wp2
  go_end0
  exact ⟨rfl, _, H.out, G.out⟩
set_option maxHeartbeats 4000000 in
set_option maxRecDepth 100000 in
theorem reff6 (n p : Int) (n1 : 1 ≤ n) (n2 : n ≤ 36) (p0 : 0 ≤ p) (p1 : p ≤ 255) (hL : hasL (letS 6).data.toList (letN n) = true) (h : RAt b base s v w) (hm : Mid s) : Calls Tryz.prog 33 #[.pointer (some ⟨b, 0, none⟩), .int .i64 6, .int .i64 n, .int .i64 p] w (RRan b base (runE (dialG 6 (letN n)) (s.put p)) v w) := by
  have H := hid h
  have HS := hid (hm.put p0 p1)
  have HP := hid (And.intro p0 p1)
  have HN := hid (And.intro n1 n2)
  have HL := hid hL
  clear h hm p0 p1 n1 n2 hL
  go_enter Tryz.func33, Tryz.ntmps33
  go_wp2_with fail
  go_at_call 40
  refine (rput p H.out HP.out.1 HP.out.2).mono ?_
  rintro e w1 ⟨rfl, v1, k, g⟩
  replace H := hid k
  have G := hid g
  clear k g
  go_wp2_with fail
  go_at_call 28
  refine (rlet_any n HN.out.1 HN.out.2 _).mono ?_
  rintro e w2 ⟨rfl, rfl⟩
  generalize letN n = c at *
  go_wp2_with fail
  go_at_call 48
  refine (r48_all HL.out H.out HS.out).mono ?_
  rintro e w2 ⟨rfl, v2, k, g⟩
  replace H := hid k
  replace G := hid (G.out.trans g)
  clear k g
  go_wp2
  go_end0
  exact ⟨rfl, _, H.out, G.out⟩
theorem reff_any (d n p : Int) (d1 : 1 ≤ d) (d6 : d ≤ 6) (n1 : 1 ≤ n) (n2 : n ≤ 36) (p0 : 0 ≤ p) (p1 : p ≤ 255) (hL : d = 5 ∨ hasL (letS d).data.toList (letN n) = true) (h : RAt b base s v w) (hm : Mid s) : Calls Tryz.prog 33 #[.pointer (some ⟨b, 0, none⟩), .int .i64 d, .int .i64 n, .int .i64 p] w (RRan b base (effR d n p s) v w) := by
  have hd : d = 1 ∨ d = 2 ∨ d = 3 ∨ d = 4 ∨ d = 5 ∨ d = 6 := by omega
  unfold effR
  rcases hd with rfl | rfl | rfl | rfl | rfl | rfl
  · exact reff1 n p n1 n2 p0 p1 (hL.resolve_left (by decide)) h hm
  · exact reff2 n p n1 n2 p0 p1 (hL.resolve_left (by decide)) h hm
  · exact reff3 n p n1 n2 p0 p1 (hL.resolve_left (by decide)) h hm
  · exact reff4 n p n1 n2 p0 p1 (hL.resolve_left (by decide)) h hm
  · exact reff5 n p n1 n2 p0 p1 h hm
  · exact reff6 n p n1 n2 p0 p1 (hL.resolve_left (by decide)) h hm
end
end Go.Proofs.YtkpielgdfahanaaGreat
