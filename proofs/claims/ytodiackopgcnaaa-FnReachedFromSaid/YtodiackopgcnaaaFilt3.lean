/- Filters, the third part: the drawn filters. -/
import Derived.Test.YtodiackopgcnaaaProg
import Derived.Test.YtodiackopgcnaaaRead
namespace Go.Proofs.Ytodiackopgcnaaa
open Go.RowKit
set_option linter.unusedVariables false
end Go.Proofs.Ytodiackopgcnaaa
