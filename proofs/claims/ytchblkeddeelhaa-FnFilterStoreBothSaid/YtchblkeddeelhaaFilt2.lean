/- Filters, the second part: BothFilters of the reference, and the drawn filters. -/
import Derived.Test.YtchblkeddeelhaaProg
import Derived.Test.YtchblkeddeelhaaFilt
namespace Go.Proofs.Ytchblkeddeelhaa
open Go.RowKit
set_option linter.unusedVariables false
theorem iBothYes {a b c a' b' c' r1 r2 r3 : Int} (h : bothOk a b c a' b' c' = true) (h1 : bits .or .i64 a a' = r1) (h2 : bits .or .i64 b b' = r2) (h3 : bits .or .i64 c c' = r3) (w : World) :
    Calls Try.prog 26 #[.agg #[.int .i64 a, .int .i64 b, .int .i64 c], .agg #[.int .i64 a', .int .i64 b', .int .i64 c']] w fun e w' => e = .returned (.tuple #[.agg #[.int .i64 r1, .int .i64 r2, .int .i64 r3], .bool true]) ∧ Chg No w w' :=
  (iBothFilters a b c a' b' c' w).mono fun e w' hh => by
    obtain ⟨he, hc⟩ := hh
    rw [h] at he
    subst h1; subst h2; subst h3
    exact ⟨by simpa using he, hc⟩
theorem iBothNo {a b c a' b' c' : Int} (h : bothOk a b c a' b' c' = false) (w : World) :
    Calls Try.prog 26 #[.agg #[.int .i64 a, .int .i64 b, .int .i64 c], .agg #[.int .i64 a', .int .i64 b', .int .i64 c']] w fun e w' => e = .returned (.tuple #[.agg #[.int .i64 0, .int .i64 0, .int .i64 0], .bool false]) ∧ Chg No w w' :=
  (iBothFilters a b c a' b' c' w).mono fun e w' hh => by
    obtain ⟨he, hc⟩ := hh
    rw [h] at he
    exact ⟨by simpa using he, hc⟩
end Go.Proofs.Ytchblkeddeelhaa
