-- Laid by this session's driver (wip/tools/myprint.py) over the kit's print program.
import Derived.Test.YtnbbkpefedjedaaProg
import Derived.Below
import Derived.Deep.Draws
import Derived.Deep.AppendLies
import Derived.Maps.AppendAt
import Derived.OwnWalk
import Derived.Laws.BytesArg
import Derived.Laws.MakeOwn
import Derived.Laws.OwnMore
import Derived.Deep.OwnRows
import Derived.Tactics
import Derived.Lib.ConvBytes
import Derived.Laws.Slices
import Derived.WalkKit
import Derived.KernelRfl
import Derived.RowKit3
import Derived.Deep.LoopGhost
import Derived.Deep.QuietTactic
import Derived.BigQuiet
import Derived.WideLaws
import Derived.Deep.DeepCutAuto
import Derived.Deep.CutBlock
import Derived.Deep.RegionHeld3
import Derived.Laws.Rows
import Derived.Lib.AppendStr
import Derived.ArgAppend
import Derived.Laws.IdiomCopy
import Derived.OrdersHeld
import Derived.Laws.BitsLemmas
import Derived.RowKit
import Derived.WalkMore
import Derived.Test.YtnbbkpefedjedaaWWords
import Derived.Test.YtnbbkpefedjedaaWLast
import Derived.Test.YtnbbkpefedjedaaWTab
import Derived.Test.YtnbbkpefedjedaaWFour
import Derived.Test.YtnbbkpefedjedaaWQPut
import Derived.Test.YtnbbkpefedjedaaWApart
import Derived.Test.YtnbbkpefedjedaaWArr
import Derived.Test.YtnbbkpefedjedaaWZeros
import Derived.Test.YtnbbkpefedjedaaWFoot
import Derived.Test.YtnbbkpefedjedaaWKept
import Derived.Test.YtnbbkpefedjedaaWShare
import Derived.Test.YtnbbkpefedjedaaWN
import Derived.Test.YtnbbkpefedjedaaWFootNe
import Derived.Test.YtnbbkpefedjedaaWAt
import Derived.Test.YtnbbkpefedjedaaWEqStruct
import Derived.Test.YtnbbkpefedjedaaWRepsOne
import Derived.Test.YtnbbkpefedjedaaWInv
import Derived.Test.YtnbbkpefedjedaaWInvWords
import Derived.Test.YtnbbkpefedjedaaWGuard
import Derived.Test.YtnbbkpefedjedaaWNEv
import Derived.Test.YtnbbkpefedjedaaWMore
namespace Go.Proofs.Ytnbbkpefedjedaa.Pa
end Go.Proofs.Ytnbbkpefedjedaa.Pa
namespace Go.Proofs.Ytnbbkpefedjedaa.Hd
end Go.Proofs.Ytnbbkpefedjedaa.Hd
namespace Go.Proofs.Ytnbbkpefedjedaa.P
open Go.RowKit Go.Proofs.Ytnbbkpefedjedaa.Pa Go.Proofs.Ytnbbkpefedjedaa.Hd Go.Proofs.YtnbbkpefedjedaaW.PrintWords Go.Proofs.YtnbbkpefedjedaaW.PrintLast Go.Proofs.YtnbbkpefedjedaaW.PrintMore
attribute [local go_sem] max2_int min2_int max_two min_two max_three min_three max_four min_four   -- for this text's walks alone
set_option linter.unusedVariables false
set_option linter.unusedSimpArgs false



def errW : Option Int → Value
  | none => .nilIface
  | some c => .iface 0 (.int .i64 c)
theorem errW_none : errW none = .nilIface := rfl
theorem errW_some (c : Int) : errW (some c) = .iface 0 (.int .i64 c) := rfl

theorem info5 : (Try.prog.info? 5).map (fun i => (i.zero, i.size, i.bytes)) = some (some (.int .u8 0), 1, 1) := by kernel_rfl
-- the values' own types

end Go.Proofs.Ytnbbkpefedjedaa.P
