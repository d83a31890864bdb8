-- Laid by this session's driver (wip/tools/myprint.py) over the kit's print program.
import Derived.Test.YtoikiefegkgedaaProg
import Derived.Below
import Derived.Deep.Draws
import Derived.Deep.AppendLies
import Derived.Maps.AppendAt
import Derived.OwnWalk
import Derived.Laws.BytesArg
import Derived.Laws.MakeOwn
import Derived.Laws.OwnMore
import Derived.Deep.OwnRows
import Derived.Tactics
import Derived.Lib.ConvBytes
import Derived.Laws.Slices
import Derived.WalkKit
import Derived.KernelRfl
import Derived.RowKit3
import Derived.Deep.LoopGhost
import Derived.Deep.QuietTactic
import Derived.BigQuiet
import Derived.WideLaws
import Derived.Deep.DeepCutAuto
import Derived.Deep.CutBlock
import Derived.Deep.RegionHeld3
import Derived.Laws.Rows
import Derived.Lib.AppendStr
import Derived.ArgAppend
import Derived.Laws.IdiomCopy
import Derived.OrdersHeld
import Derived.Laws.BitsLemmas
import Derived.RowKit
import Derived.WalkMore
import Derived.Test.YtoikiefegkgedaaWWords
import Derived.Test.YtoikiefegkgedaaWLast
import Derived.Test.YtoikiefegkgedaaWTab
import Derived.Test.YtoikiefegkgedaaWFour
import Derived.Test.YtoikiefegkgedaaWQPut
import Derived.Test.YtoikiefegkgedaaWApart
import Derived.Test.YtoikiefegkgedaaWArr
import Derived.Test.YtoikiefegkgedaaWZeros
import Derived.Test.YtoikiefegkgedaaWFoot
import Derived.Test.YtoikiefegkgedaaWKept
import Derived.Test.YtoikiefegkgedaaWShare
import Derived.Test.YtoikiefegkgedaaWN
import Derived.Test.YtoikiefegkgedaaWFootNe
import Derived.Test.YtoikiefegkgedaaWAt
import Derived.Test.YtoikiefegkgedaaWEqStruct
import Derived.Test.YtoikiefegkgedaaWRepsOne
import Derived.Test.YtoikiefegkgedaaWInv
import Derived.Test.YtoikiefegkgedaaWInvWords
import Derived.Test.YtoikiefegkgedaaWGuard
import Derived.Test.YtoikiefegkgedaaWNEv
import Derived.Test.YtoikiefegkgedaaWMore
namespace Go.Proofs.Ytoikiefegkgedaa.Hd
end Go.Proofs.Ytoikiefegkgedaa.Hd
namespace Go.Proofs.Ytoikiefegkgedaa.Pa
open Go.RowKit Go.Proofs.Ytoikiefegkgedaa.Hd Go.Proofs.YtoikiefegkgedaaW.PrintWords Go.Proofs.YtoikiefegkgedaaW.PrintLast Go.Proofs.YtoikiefegkgedaaW.PrintMore
attribute [local go_sem] max2_int min2_int max_two min_two max_three min_three max_four min_four   -- for this text's walks alone
set_option linter.unusedVariables false
set_option linter.unusedSimpArgs false



def errW : Option Int → Value
  | none => .nilIface
  | some c => .iface 0 (.int .i64 c)
theorem errW_none : errW none = .nilIface := rfl
theorem errW_some (c : Int) : errW (some c) = .iface 0 (.int .i64 c) := rfl

-- the values' own types

end Go.Proofs.Ytoikiefegkgedaa.Pa
