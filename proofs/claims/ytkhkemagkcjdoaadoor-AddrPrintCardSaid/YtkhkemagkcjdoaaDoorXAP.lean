/- Printed by xprint.py (wip) out of the translation of this seat: Lean functions of the same answers as the Go functions, each with the theorem that the Go call comes to them. Conditions: the premises of each theorem. -/
import Derived.Test.YtkhkemagkcjdoaaDoorXAP0
import Derived.Test.YtkhkemagkcjdoaaDoorXAP1
namespace Go.Proofs.YtkhkemagkcjdoaaDoor.XAP
open Go.RowKit Go.Proofs.YtkhkemagkcjdoaaDoorW.PrintWords Go.Proofs.YtkhkemagkcjdoaaDoorW.PrintLast
set_option linter.unusedVariables false
set_option linter.unusedSimpArgs false

end Go.Proofs.YtkhkemagkcjdoaaDoor.XAP
