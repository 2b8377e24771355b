/- Filters, the second part: BothFilters of the reference, and the drawn filters. -/
import Derived.Test.YtmkfmefkbcfjnaaProg
import Derived.Test.YtmkfmefkbcfjnaaFilt
namespace Go.Proofs.Ytmkfmefkbcfjnaa
open Go.RowKit
set_option linter.unusedVariables false
set_option maxHeartbeats 1000000 in
theorem sBothFilters (a b c a' b' c' : Int) (w : World) : Calls Try.prog 16 #[.agg #[.int .i64 a, .int .i64 b, .int .i64 c], .agg #[.int .i64 a', .int .i64 b', .int .i64 c']] w (Both a b c a' b' c' w) := by
  go_enter Try.func16, Try.ntmps16
  go_wp2_with fail
  refine (validFilter _ _ _ _).mono ?_
  rintro e w1 ⟨rfl, hc1⟩
  have r1 := hc1.rules
  have s1 := hc1.size
  simp only [World.size_alloc] at s1
  have z1 : w.heap.size < w1.heap.size ∧ w.heap.size + 1 < w1.heap.size ∧ w.heap.size + 1 + 1 < w1.heap.size := by omega
  go_wp2_with (go_at_call 22; refine (validFilter _ _ _ _).mono ?_; rintro e w2 ⟨rfl, hc2⟩; have r2 := hc2.rules; have s2 := hc2.size; have z2 : w.heap.size < w2.heap.size ∧ w.heap.size + 1 < w2.heap.size ∧ w.heap.size + 1 + 1 < w2.heap.size := by omega)
  all_goals (refine bodyPost_ret (by simp [results, Try.results16, go_sem, *]; rfl) rfl ?_)
  all_goals (unfold Both; refine ⟨by simp_all [bothOk], ?_⟩)
  all_goals (repeat (first | (with_reducible exact Chg.refl _ _) | ((with_reducible refine Chg.setNew ?_ _ ?_); rotate_left; first | (dsimp only; omega) | (simp; done) | (simp; omega)) | (with_reducible refine Chg.alloc ?_ _) | (with_reducible refine Chg.drew ?_) | (with_reducible refine Chg.drewN ?_ _) | (with_reducible refine Chg.no ?_ (by assumption)) | (with_reducible refine Chg.and_ ?_ (by assumption)) | ((with_reducible refine Chg.at_ ?_ (by assumption) ?_); rotate_left; (try simp only [World.size_alloc]); omega)))
theorem iBothYes {a b c a' b' c' r1 r2 r3 : Int} (h : bothOk a b c a' b' c' = true) (h1 : bits .or .i64 a a' = r1) (h2 : bits .or .i64 b b' = r2) (h3 : bits .or .i64 c c' = r3) (w : World) :
    Calls Try.prog 17 #[.agg #[.int .i64 a, .int .i64 b, .int .i64 c], .agg #[.int .i64 a', .int .i64 b', .int .i64 c']] w fun e w' => e = .returned (.tuple #[.agg #[.int .i64 r1, .int .i64 r2, .int .i64 r3], .bool true]) ∧ Chg No w w' :=
  (iBothFilters a b c a' b' c' w).mono fun e w' hh => by
    obtain ⟨he, hc⟩ := hh
    rw [h] at he
    subst h1; subst h2; subst h3
    exact ⟨by simpa using he, hc⟩
theorem iBothNo {a b c a' b' c' : Int} (h : bothOk a b c a' b' c' = false) (w : World) :
    Calls Try.prog 17 #[.agg #[.int .i64 a, .int .i64 b, .int .i64 c], .agg #[.int .i64 a', .int .i64 b', .int .i64 c']] w fun e w' => e = .returned (.tuple #[.agg #[.int .i64 0, .int .i64 0, .int .i64 0], .bool false]) ∧ Chg No w w' :=
  (iBothFilters a b c a' b' c' w).mono fun e w' hh => by
    obtain ⟨he, hc⟩ := hh
    rw [h] at he
    exact ⟨by simpa using he, hc⟩
theorem sBothYes {a b c a' b' c' r1 r2 r3 : Int} (h : bothOk a b c a' b' c' = true) (h1 : bits .or .i64 a a' = r1) (h2 : bits .or .i64 b b' = r2) (h3 : bits .or .i64 c c' = r3) (w : World) :
    Calls Try.prog 16 #[.agg #[.int .i64 a, .int .i64 b, .int .i64 c], .agg #[.int .i64 a', .int .i64 b', .int .i64 c']] w fun e w' => e = .returned (.tuple #[.agg #[.int .i64 r1, .int .i64 r2, .int .i64 r3], .bool true]) ∧ Chg No w w' :=
  (sBothFilters a b c a' b' c' w).mono fun e w' hh => by
    obtain ⟨he, hc⟩ := hh
    rw [h] at he
    subst h1; subst h2; subst h3
    exact ⟨by simpa using he, hc⟩
theorem sBothNo {a b c a' b' c' : Int} (h : bothOk a b c a' b' c' = false) (w : World) :
    Calls Try.prog 16 #[.agg #[.int .i64 a, .int .i64 b, .int .i64 c], .agg #[.int .i64 a', .int .i64 b', .int .i64 c']] w fun e w' => e = .returned (.tuple #[.agg #[.int .i64 0, .int .i64 0, .int .i64 0], .bool false]) ∧ Chg No w w' :=
  (sBothFilters a b c a' b' c' w).mono fun e w' hh => by
    obtain ⟨he, hc⟩ := hh
    rw [h] at he
    exact ⟨by simpa using he, hc⟩
end Go.Proofs.Ytmkfmefkbcfjnaa
