/- Filters, the third part: the drawn filters. -/
import Derived.Test.YtgidepnlflmclaaProg
import Derived.Test.YtgidepnlflmclaaRead
namespace Go.Proofs.Ytgidepnlflmclaa
open Go.RowKit
set_option linter.unusedVariables false
end Go.Proofs.Ytgidepnlflmclaa
