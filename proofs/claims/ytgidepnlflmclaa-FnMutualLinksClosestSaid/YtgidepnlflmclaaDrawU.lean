/- The drawn arguments of mutual links. -/
import Derived.Test.YtgidepnlflmclaaLinksJ
import Derived.OwnWalk
namespace Go.Proofs.Ytgidepnlflmclaa
open Go.RowKit
set_option linter.unusedVariables false
set_option linter.unusedSimpArgs false
theorem drawMutualLinks (A : Option Addr) (n c : Nat) (w : World) (hC : Code w w.heap.size A n c) : Calls Try.prog 34 #[.slice A n c] w (DrawnL w) := by
  go_enter Try.func34, Try.ntmps34
  (go_wp2_with fail; (with_reducible refine (drawLinksOf A n c _ hC).mono ?_); rintro e w1 ⟨v1, xs, kind, many, rfl, ho1, hl1, hkd, hmd, hc1⟩)
  have HI := hid ho1
  clear ho1
  go_wp2
  (refine bodyPost_ret (by simp [results, Try.results34, go_sem, *]; rfl) rfl ?_)
  exact ⟨_, xs, _, _, rfl, HI.out, hl1, hkd, hmd, hc1⟩
end Go.Proofs.Ytgidepnlflmclaa
