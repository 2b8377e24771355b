/- The reference's nearest. -/
import Derived.Test.YtgidepnlflmclaaAdd
import Derived.Test.YtgidepnlflmclaaVec
import Derived.Test.YtgidepnlflmclaaPStore
import Derived.Deep.RegionWith
namespace Go.Proofs.Ytgidepnlflmclaa
open Go.RowKit
set_option linter.unusedVariables false
set_option linter.unusedSimpArgs false
end Go.Proofs.Ytgidepnlflmclaa
