/- Small functions of the reference: inRange, toInt. -/
import Derived.Test.YtifdcdpdihfbjaaProg
import Derived.Test.YtifdcdpdihfbjaaPVec
namespace Go.Proofs.Ytifdcdpdihfbjaa
open Go.RowKit
set_option linter.unusedVariables false
theorem inRange (n lo hi : Int) (w : World) : Calls Try.prog 52 #[.int .i64 n, .int .i64 lo, .int .i64 hi] w fun e w' => e = .returned (.bool (inB n lo hi)) ∧ w = w' := by
  go_enter Try.func52, Try.ntmps52
  go_wp2
  all_goals go_ret
  all_goals (unfold inB; exact ⟨by congr 2; simp_all; try omega, rfl⟩)
theorem toInt (b : Bool) (w : World) : Calls Try.prog 95 #[.bool b] w fun e w' => e = .returned (.int .i64 (if b then 1 else 0)) ∧ w = w' := by
  cases b
  all_goals
    go_enter Try.func95, Try.ntmps95
    go_wp2
    go_ret
    exact ⟨rfl, rfl⟩
end Go.Proofs.Ytifdcdpdihfbjaa
