/- Small functions of the reference: inRange, toInt. -/
import Derived.Test.YtmkfmefkbcfjnaaProg
import Derived.Test.YtmkfmefkbcfjnaaPVec
namespace Go.Proofs.Ytmkfmefkbcfjnaa
open Go.RowKit
set_option linter.unusedVariables false
theorem inRange (n lo hi : Int) (w : World) : Calls Try.prog 24 #[.int .i64 n, .int .i64 lo, .int .i64 hi] w fun e w' => e = .returned (.bool (inB n lo hi)) ∧ w = w' := by
  go_enter Try.func24, Try.ntmps24
  go_wp2
  all_goals go_ret
  all_goals (unfold inB; exact ⟨by congr 2; simp_all; try omega, rfl⟩)
end Go.Proofs.Ytmkfmefkbcfjnaa
