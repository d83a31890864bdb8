-- Laid by this session's driver (wip/tools/myprint.py) over the kit's print program.
import Derived.Test.YtmblmjeelecmmaaProg
import Derived.Below
import Derived.Deep.Draws
import Derived.Deep.AppendLies
import Derived.Maps.AppendAt
import Derived.OwnWalk
import Derived.Laws.BytesArg
import Derived.Laws.MakeOwn
import Derived.Laws.OwnMore
import Derived.Deep.OwnRows
import Derived.Tactics
import Derived.Lib.ConvBytes
import Derived.Laws.Slices
import Derived.WalkKit
import Derived.KernelRfl
import Derived.RowKit3
import Derived.Deep.LoopGhost
import Derived.Deep.QuietTactic
import Derived.BigQuiet
import Derived.WideLaws
import Derived.Deep.DeepCutAuto
import Derived.Deep.CutBlock
import Derived.Deep.RegionHeld3
import Derived.Laws.Rows
import Derived.Lib.AppendStr
import Derived.ArgAppend
import Derived.Laws.IdiomCopy
import Derived.OrdersHeld
import Derived.Laws.BitsLemmas
import Derived.RowKit
import Derived.WalkMore
import Derived.Test.YtmblmjeelecmmaaWWords
import Derived.Test.YtmblmjeelecmmaaWLast
import Derived.Test.YtmblmjeelecmmaaWTab
import Derived.Test.YtmblmjeelecmmaaWFour
import Derived.Test.YtmblmjeelecmmaaWQPut
import Derived.Test.YtmblmjeelecmmaaWApart
import Derived.Test.YtmblmjeelecmmaaWArr
import Derived.Test.YtmblmjeelecmmaaWZeros
import Derived.Test.YtmblmjeelecmmaaWFoot
import Derived.Test.YtmblmjeelecmmaaWKept
import Derived.Test.YtmblmjeelecmmaaWShare
import Derived.Test.YtmblmjeelecmmaaWN
import Derived.Test.YtmblmjeelecmmaaWFootNe
import Derived.Test.YtmblmjeelecmmaaWAt
import Derived.Test.YtmblmjeelecmmaaWEqStruct
import Derived.Test.YtmblmjeelecmmaaWRepsOne
import Derived.Test.YtmblmjeelecmmaaWInv
import Derived.Test.YtmblmjeelecmmaaWInvWords
import Derived.Test.YtmblmjeelecmmaaWGuard
import Derived.Test.YtmblmjeelecmmaaWNEv
import Derived.Test.YtmblmjeelecmmaaWMore
namespace Go.Proofs.Ytmblmjeelecmmaa.P
open Go.RowKit Go.Proofs.YtmblmjeelecmmaaW.PrintWords Go.Proofs.YtmblmjeelecmmaaW.PrintLast Go.Proofs.YtmblmjeelecmmaaW.PrintMore
attribute [local go_sem] max2_int min2_int max_two min_two max_three min_three max_four min_four   -- for this text's walks alone
set_option linter.unusedVariables false
set_option linter.unusedSimpArgs false



def errW : Option Int → Value
  | none => .nilIface
  | some c => .iface 0 (.int .i64 c)
theorem errW_none : errW none = .nilIface := rfl
theorem errW_some (c : Int) : errW (some c) = .iface 0 (.int .i64 c) := rfl

theorem info3 : (Try.prog.info? 3).map (fun i => (i.zero, i.size, i.bytes)) = some (some (.int .i64 0), 1, 8) := by kernel_rfl
-- the values' own types

end Go.Proofs.Ytmblmjeelecmmaa.P
