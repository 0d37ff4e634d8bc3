/- Printed by xprint.py (wip) out of the translation of this seat: Lean functions of the same answers as the Go functions, each with the theorem that the Go call comes to them. Conditions: the premises of each theorem. -/
import Derived.Test.YtkhkemagkcjdoaaDoorXQA0
import Derived.Test.YtkhkemagkcjdoaaDoorXQA1
import Derived.Test.YtkhkemagkcjdoaaDoorXQA2
import Derived.Test.YtkhkemagkcjdoaaDoorXQA3
import Derived.Test.YtkhkemagkcjdoaaDoorXQA4
import Derived.Test.YtkhkemagkcjdoaaDoorXQA5
import Derived.Test.YtkhkemagkcjdoaaDoorXQA6
import Derived.Test.YtkhkemagkcjdoaaDoorXQA7
namespace Go.Proofs.YtkhkemagkcjdoaaDoor.XQA
open Go.RowKit Go.Proofs.YtkhkemagkcjdoaaDoorW.PrintWords Go.Proofs.YtkhkemagkcjdoaaDoorW.PrintLast
set_option linter.unusedVariables false
set_option linter.unusedSimpArgs false

end Go.Proofs.YtkhkemagkcjdoaaDoor.XQA
