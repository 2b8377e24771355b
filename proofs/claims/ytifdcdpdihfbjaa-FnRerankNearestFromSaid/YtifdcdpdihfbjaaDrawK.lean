/- The drawn arguments: a count, a kind of distances. -/
import Derived.Test.YtifdcdpdihfbjaaDraw1
import Derived.OwnWalk
namespace Go.Proofs.Ytifdcdpdihfbjaa
open Go.RowKit
set_option linter.unusedVariables false
set_option linter.unusedSimpArgs false
set_option maxHeartbeats 1000000 in
theorem someK {B : Nat} (g m : Nat) (w : World) (hR : Rd w B g m) (hm : m < 700000) : Calls Try.prog 46 #[.pointer (some ⟨g, 0, none⟩)] w (DrawnOf B g m [1, 2, 3, 5, 16, 4, 0, 17] w) := by
  have hg := hR.lt
  go_enter Try.func46, Try.ntmps46
  (go_wp2_with fail; (refine (oneLit g m [1, 2, 3, 5, 16, 4, 0, 17] 8 _ _ (hR.no ((Chg.refl _ _).alloc _)) (by omega) (heap_top rfl) rfl rfl (by omega) (by omega) (by omega)).mono ?_); rintro e w1 ⟨x, rfl, hx, hR1, hc1⟩)
  go_wp2
  go_ret
  exact ⟨x, rfl, hx, hR1, ((Chg.refl (At g) w).alloc _).trans hc1 (fun _ _ h => h)⟩
end Go.Proofs.Ytifdcdpdihfbjaa
