/- Filters, the third part: the drawn filters. -/
import Derived.Test.YtifdcdpdihfbjaaProg
import Derived.Test.YtifdcdpdihfbjaaRead
namespace Go.Proofs.Ytifdcdpdihfbjaa
open Go.RowKit
set_option linter.unusedVariables false
end Go.Proofs.Ytifdcdpdihfbjaa
