/- Printed by xprint.py (wip) out of the translation of this seat: Lean functions of the same answers as the Go functions, each with the theorem that the Go call comes to them. Conditions: the premises of each theorem. -/
import Derived.Test.YtkhkemagkcjdoaaDoorProg
import Derived.Below
import Derived.Deep.Draws
import Derived.Deep.AppendLies
import Derived.Maps.AppendAt
import Derived.OwnWalk
import Derived.Laws.BytesArg
import Derived.Laws.MakeOwn
import Derived.Laws.OwnMore
import Derived.Deep.OwnRows
import Derived.Tactics
import Derived.Lib.ConvBytes
import Derived.Laws.Slices
import Derived.WalkKit
import Derived.KernelRfl
import Derived.RowKit3
import Derived.Deep.LoopGhost
import Derived.Deep.QuietTactic
import Derived.BigQuiet
import Derived.WideLaws
import Derived.Deep.DeepCutAuto
import Derived.Deep.CutBlock
import Derived.Deep.RegionHeld3
import Derived.Laws.Rows
import Derived.Lib.AppendStr
import Derived.ArgAppend
import Derived.Laws.IdiomCopy
import Derived.OrdersHeld
import Derived.Laws.BitsLemmas
import Derived.RowKit
import Derived.Test.YtkhkemagkcjdoaaDoorXAD
import Derived.Test.YtkhkemagkcjdoaaDoorWWords
import Derived.Test.YtkhkemagkcjdoaaDoorWLast
import Derived.Test.YtkhkemagkcjdoaaDoorWTab
import Derived.Test.YtkhkemagkcjdoaaDoorWGuard
import Derived.Test.YtkhkemagkcjdoaaDoorWRepsOne
namespace Go.Proofs.YtkhkemagkcjdoaaDoor.XAP
open Go.RowKit Go.Proofs.YtkhkemagkcjdoaaDoorW.PrintWords Go.Proofs.YtkhkemagkcjdoaaDoorW.PrintLast Go.Proofs.YtkhkemagkcjdoaaDoor.Gv Go.Proofs.YtkhkemagkcjdoaaDoor.XAD 
set_option linter.unusedVariables false
set_option linter.unusedSimpArgs false




-- the values' own types

end Go.Proofs.YtkhkemagkcjdoaaDoor.XAP
