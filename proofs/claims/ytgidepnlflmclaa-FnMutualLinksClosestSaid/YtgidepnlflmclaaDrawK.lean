/- The drawn arguments: a count, a kind of distances. -/
import Derived.Test.YtgidepnlflmclaaDraw1
import Derived.OwnWalk
namespace Go.Proofs.Ytgidepnlflmclaa
open Go.RowKit
set_option linter.unusedVariables false
set_option linter.unusedSimpArgs false
set_option maxHeartbeats 1000000 in
theorem anyKind {B : Nat} (g m : Nat) (w : World) (hR : Rd w B g m) (hm : m < 700000) : Calls Try.prog 55 #[.pointer (some ⟨g, 0, none⟩)] w (DrawnOf B g m [1, 2, 3, 4, 1, 2, 3, 4, 1, 2, 0, 5] w) := by
  have hg := hR.lt
  go_enter Try.func55, Try.ntmps55
  (go_wp2_with fail; (refine (oneLit g m [1, 2, 3, 4, 1, 2, 3, 4, 1, 2, 0, 5] 12 _ _ (hR.no ((Chg.refl _ _).alloc _)) (by omega) (heap_top rfl) rfl rfl (by omega) (by omega) (by omega)).mono ?_); rintro e w1 ⟨x, rfl, hx, hR1, hc1⟩)
  go_wp2
  go_ret
  exact ⟨x, rfl, hx, hR1, ((Chg.refl (At g) w).alloc _).trans hc1 (fun _ _ h => h)⟩
end Go.Proofs.Ytgidepnlflmclaa
