/- Stores: copies, filtered items and FilterStore, the program's and the reference's. -/
import Derived.Test.YtifdcdpdihfbjaaStoreI
import Derived.Test.YtifdcdpdihfbjaaMark
namespace Go.Proofs.Ytifdcdpdihfbjaa
open Go.RowKit
set_option linter.unusedVariables false
set_option linter.unusedSimpArgs false
/-- the items that pass a filter, none where the arguments are not valid -/
def filtF (xs : List It) (a b c : Int) : List It := if storeB xs && filterB a b c then xs.filter (fun x => passB a b c x.tags) else []
theorem filtF_bad {xs : List It} {a b c : Int} (h : (storeB xs && filterB a b c) = false) : filtF xs a b c = [] := by unfold filtF; rw [h]; rfl
theorem filtF_ok {xs : List It} {a b c : Int} (h1 : storeB xs = true) (h2 : filterB a b c = true) : filtF xs a b c = xs.filter (fun x => passB a b c x.tags) := by unfold filtF; rw [h1, h2]; rfl
end Go.Proofs.Ytifdcdpdihfbjaa
