/- Filters: the program's and the reference's functions, and the drawn filters. -/
import Derived.Test.YtkglmhhihpofiaaBase
import Derived.Test.YtkglmhhihpofiaaRead
namespace Go.Proofs.Ytkglmhhihpofiaa
open Go.RowKit
set_option linter.unusedVariables false
def tagsB (a : Int) : Bool := inB a 0 15
def filterB (a b c : Int) : Bool := tagsB a && (tagsB b && tagsB c)
def passB (a b c t : Int) : Bool := (bits BinOp.and IntKind.i64 t a == a) && ((bits BinOp.and IntKind.i64 t b == 0) && ((c == 0) || (bits BinOp.and IntKind.i64 t c != 0)))
def PassB (a b c t : Int) : Bool := filterB a b c && (tagsB t && passB a b c t)
def bothOk (a b c a' b' c' : Int) : Bool := filterB a b c && (filterB a' b' c' && (c == 0 || c' == 0))
theorem areTags (a : Int) (w : World) : Calls Try.prog 72 #[.int .i64 a] w fun e w' => e = .returned (.bool (tagsB a)) ∧ w = w' := by
  go_enter Try.func72, Try.ntmps72
  go_wp2
  all_goals go_ret
  all_goals (unfold tagsB inB; exact ⟨by congr 2; simp_all; try omega, rfl⟩)
set_option maxHeartbeats 400000 in
theorem isFilter (a b c : Int) (w : World) : Calls Try.prog 62 #[.agg #[.int .i64 a, .int .i64 b, .int .i64 c]] w fun e w' => e = .returned (.bool (filterB a b c)) ∧ Chg No w w' := by
  go_enter Try.func62, Try.ntmps62
  go_wp2_with ((go_at_call 72; refine (areTags _ _).mono ?_; rintro e w' ⟨rfl, rfl⟩))
  all_goals go_ret
  all_goals exact ⟨by simp_all [filterB], (Chg.refl _ _).alloc _⟩
set_option maxHeartbeats 400000 in
theorem validFilter (a b c : Int) (w : World) : Calls Try.prog 59 #[.agg #[.int .i64 a, .int .i64 b, .int .i64 c]] w fun e w' => e = .returned (.bool (filterB a b c)) ∧ Chg No w w' := by
  go_enter Try.func59, Try.ntmps59
  go_wp2_with ((go_at_call 53; refine (inRange _ _ _ _).mono ?_; rintro e w' ⟨rfl, rfl⟩))
  all_goals go_ret
  all_goals exact ⟨by simp_all [filterB, tagsB], (Chg.refl _ _).alloc _⟩
theorem iValidFilter (a b c : Int) (w : World) : Calls Try.prog 40 #[.agg #[.int .i64 a, .int .i64 b, .int .i64 c]] w fun e w' => e = .returned (.bool (filterB a b c)) ∧ Chg No w w' := by
  go_enter Try.func40, Try.ntmps40
  go_wp2_with ((go_at_call 62; refine (isFilter _ _ _ _).mono ?_; rintro e w' ⟨rfl, hc⟩))
  go_ret
  exact ⟨rfl, ((Chg.refl _ _).alloc _).no hc⟩
set_option maxHeartbeats 400000 in
theorem passes (a b c t : Int) (w : World) : Calls Try.prog 73 #[.agg #[.int .i64 a, .int .i64 b, .int .i64 c], .int .i64 t] w fun e w' => e = .returned (.bool (passB a b c t)) ∧ Chg No w w' := by
  go_enter Try.func73, Try.ntmps73
  go_wp2
  all_goals go_ret
  all_goals exact ⟨by simp_all [passB], (Chg.refl _ _).alloc _⟩
set_option maxHeartbeats 400000 in
theorem spasses (a b c t : Int) (w : World) : Calls Try.prog 90 #[.agg #[.int .i64 a, .int .i64 b, .int .i64 c], .int .i64 t] w fun e w' => e = .returned (.bool (passB a b c t)) ∧ Chg No w w' := by
  go_enter Try.func90, Try.ntmps90
  go_wp2
  all_goals go_ret
  all_goals exact ⟨by simp_all [passB], (Chg.refl _ _).alloc _⟩
set_option maxHeartbeats 400000 in
theorem iPasses (a b c t : Int) (w : World) : Calls Try.prog 38 #[.agg #[.int .i64 a, .int .i64 b, .int .i64 c], .int .i64 t] w fun e w' => e = .returned (.bool (PassB a b c t)) ∧ Chg No w w' := by
  go_enter Try.func38, Try.ntmps38
  go_wp2_with fail
  refine (isFilter _ _ _ _).mono ?_
  rintro e w1 ⟨rfl, hc1⟩
  have r1 := hc1.rules
  have s1 := hc1.size
  simp only [World.size_alloc] at s1
  go_wp2_with (first | (go_at_call 72; refine (areTags _ _).mono ?_; rintro e w' ⟨rfl, rfl⟩) | (go_at_call 73; refine (passes _ _ _ _ _).mono ?_; rintro e w' ⟨rfl, hc2⟩))
  all_goals go_ret
  all_goals exact ⟨by simp_all [PassB, tagsB], by first | exact (((Chg.refl _ _).alloc _).no hc1).no hc2 | exact ((Chg.refl _ _).alloc _).no hc1⟩
theorem toFilter (a b c : Int) (w : World) : Calls Try.prog 19 #[.agg #[.int .i64 a, .int .i64 b, .int .i64 c]] w fun e w' => e = .returned (.agg #[.int .i64 a, .int .i64 b, .int .i64 c]) ∧ Chg No w w' := by
  go_enter Try.func19, Try.ntmps19
  go_wp2
  refine bodyPost_ret (v := .agg #[.int .i64 a, .int .i64 b, .int .i64 c]) (by simp [results, Try.results19, go_sem]) rfl ⟨rfl, ?_⟩
  exact (((Chg.refl _ _).alloc _).alloc _).alloc _
end Go.Proofs.Ytkglmhhihpofiaa
