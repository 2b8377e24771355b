/- Filters: the program's and the reference's functions, and the drawn filters. -/
import Derived.Test.YtchblkeddeelhaaBase
import Derived.Test.YtchblkeddeelhaaRead
namespace Go.Proofs.Ytchblkeddeelhaa
open Go.RowKit
set_option linter.unusedVariables false
def tagsB (a : Int) : Bool := inB a 0 15
def filterB (a b c : Int) : Bool := tagsB a && (tagsB b && tagsB c)
def passB (a b c t : Int) : Bool := (bits BinOp.and IntKind.i64 t a == a) && ((bits BinOp.and IntKind.i64 t b == 0) && ((c == 0) || (bits BinOp.and IntKind.i64 t c != 0)))
def PassB (a b c t : Int) : Bool := filterB a b c && (tagsB t && passB a b c t)
def bothOk (a b c a' b' c' : Int) : Bool := filterB a b c && (filterB a' b' c' && (c == 0 || c' == 0))
theorem areTags (a : Int) (w : World) : Calls Try.prog 59 #[.int .i64 a] w fun e w' => e = .returned (.bool (tagsB a)) ∧ w = w' := by
  go_enter Try.func59, Try.ntmps59
  go_wp2
  all_goals go_ret
  all_goals (unfold tagsB inB; exact ⟨by congr 2; simp_all; try omega, rfl⟩)
set_option maxHeartbeats 400000 in
theorem isFilter (a b c : Int) (w : World) : Calls Try.prog 51 #[.agg #[.int .i64 a, .int .i64 b, .int .i64 c]] w fun e w' => e = .returned (.bool (filterB a b c)) ∧ Chg No w w' := by
  go_enter Try.func51, Try.ntmps51
  go_wp2_with ((go_at_call 59; refine (areTags _ _).mono ?_; rintro e w' ⟨rfl, rfl⟩))
  all_goals go_ret
  all_goals exact ⟨by simp_all [filterB], (Chg.refl _ _).alloc _⟩
set_option maxHeartbeats 400000 in
theorem validFilter (a b c : Int) (w : World) : Calls Try.prog 47 #[.agg #[.int .i64 a, .int .i64 b, .int .i64 c]] w fun e w' => e = .returned (.bool (filterB a b c)) ∧ Chg No w w' := by
  go_enter Try.func47, Try.ntmps47
  go_wp2_with ((go_at_call 71; refine (inRange _ _ _ _).mono ?_; rintro e w' ⟨rfl, rfl⟩))
  all_goals go_ret
  all_goals exact ⟨by simp_all [filterB, tagsB], (Chg.refl _ _).alloc _⟩
theorem iValidFilter (a b c : Int) (w : World) : Calls Try.prog 23 #[.agg #[.int .i64 a, .int .i64 b, .int .i64 c]] w fun e w' => e = .returned (.bool (filterB a b c)) ∧ Chg No w w' := by
  go_enter Try.func23, Try.ntmps23
  go_wp2_with ((go_at_call 51; refine (isFilter _ _ _ _).mono ?_; rintro e w' ⟨rfl, hc⟩))
  go_ret
  exact ⟨rfl, ((Chg.refl _ _).alloc _).no hc⟩
set_option maxHeartbeats 400000 in
theorem passes (a b c t : Int) (w : World) : Calls Try.prog 60 #[.agg #[.int .i64 a, .int .i64 b, .int .i64 c], .int .i64 t] w fun e w' => e = .returned (.bool (passB a b c t)) ∧ Chg No w w' := by
  go_enter Try.func60, Try.ntmps60
  go_wp2
  all_goals go_ret
  all_goals exact ⟨by simp_all [passB], (Chg.refl _ _).alloc _⟩
set_option maxHeartbeats 400000 in
theorem spasses (a b c t : Int) (w : World) : Calls Try.prog 48 #[.agg #[.int .i64 a, .int .i64 b, .int .i64 c], .int .i64 t] w fun e w' => e = .returned (.bool (passB a b c t)) ∧ Chg No w w' := by
  go_enter Try.func48, Try.ntmps48
  go_wp2
  all_goals go_ret
  all_goals exact ⟨by simp_all [passB], (Chg.refl _ _).alloc _⟩
set_option maxHeartbeats 400000 in
theorem iPasses (a b c t : Int) (w : World) : Calls Try.prog 24 #[.agg #[.int .i64 a, .int .i64 b, .int .i64 c], .int .i64 t] w fun e w' => e = .returned (.bool (PassB a b c t)) ∧ Chg No w w' := by
  go_enter Try.func24, Try.ntmps24
  go_wp2_with fail
  refine (isFilter _ _ _ _).mono ?_
  rintro e w1 ⟨rfl, hc1⟩
  have r1 := hc1.rules
  have s1 := hc1.size
  simp only [World.size_alloc] at s1
  go_wp2_with (first | (go_at_call 59; refine (areTags _ _).mono ?_; rintro e w' ⟨rfl, rfl⟩) | (go_at_call 60; refine (passes _ _ _ _ _).mono ?_; rintro e w' ⟨rfl, hc2⟩))
  all_goals go_ret
  all_goals exact ⟨by simp_all [PassB, tagsB], by first | exact (((Chg.refl _ _).alloc _).no hc1).no hc2 | exact ((Chg.refl _ _).alloc _).no hc1⟩
theorem toFilter (a b c : Int) (w : World) : Calls Try.prog 15 #[.agg #[.int .i64 a, .int .i64 b, .int .i64 c]] w fun e w' => e = .returned (.agg #[.int .i64 a, .int .i64 b, .int .i64 c]) ∧ Chg No w w' := by
  go_enter Try.func15, Try.ntmps15
  go_wp2
  refine bodyPost_ret (v := .agg #[.int .i64 a, .int .i64 b, .int .i64 c]) (by simp [results, Try.results15, go_sem]) rfl ⟨rfl, ?_⟩
  exact (((Chg.refl _ _).alloc _).alloc _).alloc _
def bothA (a b c a' b' c' : Int) : Bool := bothOk a b c a' b' c'
def Both (a b c a' b' c' : Int) (w : World) (e : Ending) (w' : World) : Prop :=
  (if bothOk a b c a' b' c' then e = .returned (.tuple #[.agg #[.int .i64 (bits .or .i64 a a'), .int .i64 (bits .or .i64 b b'), .int .i64 (bits .or .i64 c c')], .bool true])
    else e = .returned (.tuple #[.agg #[.int .i64 0, .int .i64 0, .int .i64 0], .bool false])) ∧ Chg No w w'
set_option maxHeartbeats 1000000 in
theorem iBothFilters (a b c a' b' c' : Int) (w : World) : Calls Try.prog 26 #[.agg #[.int .i64 a, .int .i64 b, .int .i64 c], .agg #[.int .i64 a', .int .i64 b', .int .i64 c']] w (Both a b c a' b' c' w) := by
  go_enter Try.func26, Try.ntmps26
  go_wp2_with fail
  refine (isFilter _ _ _ _).mono ?_
  rintro e w1 ⟨rfl, hc1⟩
  have r1 := hc1.rules
  have s1 := hc1.size
  simp only [World.size_alloc] at s1
  have z1 : w.heap.size < w1.heap.size ∧ w.heap.size + 1 < w1.heap.size ∧ w.heap.size + 1 + 1 < w1.heap.size := by omega
  go_wp2_with (go_at_call 51; refine (isFilter _ _ _ _).mono ?_; rintro e w2 ⟨rfl, hc2⟩; have r2 := hc2.rules; have s2 := hc2.size; have z2 : w.heap.size < w2.heap.size ∧ w.heap.size + 1 < w2.heap.size ∧ w.heap.size + 1 + 1 < w2.heap.size := by omega)
  all_goals (refine bodyPost_ret (by simp [results, Try.results26, go_sem, *]; rfl) rfl ?_)
  all_goals (unfold Both; refine ⟨by simp_all [bothOk], ?_⟩)
  all_goals (repeat (first | (with_reducible exact Chg.refl _ _) | ((with_reducible refine Chg.setNew ?_ _ ?_); rotate_left; first | (dsimp only; omega) | (simp; done) | (simp; omega)) | (with_reducible refine Chg.alloc ?_ _) | (with_reducible refine Chg.drew ?_) | (with_reducible refine Chg.drewN ?_ _) | (with_reducible refine Chg.no ?_ (by assumption)) | (with_reducible refine Chg.and_ ?_ (by assumption)) | ((with_reducible refine Chg.at_ ?_ (by assumption) ?_); rotate_left; (try simp only [World.size_alloc]); omega)))
end Go.Proofs.Ytchblkeddeelhaa
