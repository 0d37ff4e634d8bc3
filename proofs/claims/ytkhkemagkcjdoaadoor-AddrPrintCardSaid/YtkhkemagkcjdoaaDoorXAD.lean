/- Printed by xprint.py (wip) out of the translation of this seat: Lean functions of the same answers as the Go functions, each with the theorem that the Go call comes to them. Conditions: the premises of each theorem. -/
import Derived.Test.YtkhkemagkcjdoaaDoorXAD0
import Derived.Test.YtkhkemagkcjdoaaDoorXAD1
import Derived.Test.YtkhkemagkcjdoaaDoorXAD2
import Derived.Test.YtkhkemagkcjdoaaDoorXAD3
import Derived.Test.YtkhkemagkcjdoaaDoorXAD4
import Derived.Test.YtkhkemagkcjdoaaDoorXAD5
import Derived.Test.YtkhkemagkcjdoaaDoorXAD6
import Derived.Test.YtkhkemagkcjdoaaDoorXAD7
namespace Go.Proofs.YtkhkemagkcjdoaaDoor.XAD
open Go.RowKit Go.Proofs.YtkhkemagkcjdoaaDoorW.PrintWords Go.Proofs.YtkhkemagkcjdoaaDoorW.PrintLast
set_option linter.unusedVariables false
set_option linter.unusedSimpArgs false

end Go.Proofs.YtkhkemagkcjdoaaDoor.XAD
