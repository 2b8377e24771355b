/- Filters: the program's and the reference's functions, and the drawn filters. -/
import Derived.Test.YtifdcdpdihfbjaaBase
import Derived.Test.YtifdcdpdihfbjaaRead
namespace Go.Proofs.Ytifdcdpdihfbjaa
open Go.RowKit
set_option linter.unusedVariables false
def tagsB (a : Int) : Bool := inB a 0 15
def filterB (a b c : Int) : Bool := tagsB a && (tagsB b && tagsB c)
def passB (a b c t : Int) : Bool := (bits BinOp.and IntKind.i64 t a == a) && ((bits BinOp.and IntKind.i64 t b == 0) && ((c == 0) || (bits BinOp.and IntKind.i64 t c != 0)))
def PassB (a b c t : Int) : Bool := filterB a b c && (tagsB t && passB a b c t)
def bothOk (a b c a' b' c' : Int) : Bool := filterB a b c && (filterB a' b' c' && (c == 0 || c' == 0))
end Go.Proofs.Ytifdcdpdihfbjaa
