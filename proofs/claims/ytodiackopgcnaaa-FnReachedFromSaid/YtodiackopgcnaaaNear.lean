/- The reference's nearest. -/
import Derived.Test.YtodiackopgcnaaaAdd
import Derived.Test.YtodiackopgcnaaaVec
import Derived.Test.YtodiackopgcnaaaPStore
import Derived.Deep.RegionWith
namespace Go.Proofs.Ytodiackopgcnaaa
open Go.RowKit
set_option linter.unusedVariables false
set_option linter.unusedSimpArgs false
end Go.Proofs.Ytodiackopgcnaaa
