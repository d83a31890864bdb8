-- Laid by this session's driver (wip/tools/myprint.py) over the kit's print program.
import Derived.Test.YtlegmefnaghloaaProg
import Derived.Below
import Derived.Deep.Draws
import Derived.Deep.AppendLies
import Derived.Maps.AppendAt
import Derived.OwnWalk
import Derived.Laws.BytesArg
import Derived.Laws.MakeOwn
import Derived.Laws.OwnMore
import Derived.Deep.OwnRows
import Derived.Tactics
import Derived.Lib.ConvBytes
import Derived.Laws.Slices
import Derived.WalkKit
import Derived.KernelRfl
import Derived.RowKit3
import Derived.Deep.LoopGhost
import Derived.Deep.QuietTactic
import Derived.BigQuiet
import Derived.WideLaws
import Derived.Deep.DeepCutAuto
import Derived.Deep.CutBlock
import Derived.Deep.RegionHeld3
import Derived.Laws.Rows
import Derived.Lib.AppendStr
import Derived.ArgAppend
import Derived.Laws.IdiomCopy
import Derived.OrdersHeld
import Derived.Laws.BitsLemmas
import Derived.RowKit
import Derived.WalkMore
import Derived.Test.YtlegmefnaghloaaWWords
import Derived.Test.YtlegmefnaghloaaWLast
import Derived.Test.YtlegmefnaghloaaWTab
import Derived.Test.YtlegmefnaghloaaWFour
import Derived.Test.YtlegmefnaghloaaWQPut
import Derived.Test.YtlegmefnaghloaaWApart
import Derived.Test.YtlegmefnaghloaaWArr
import Derived.Test.YtlegmefnaghloaaWZeros
import Derived.Test.YtlegmefnaghloaaWFoot
import Derived.Test.YtlegmefnaghloaaWKept
import Derived.Test.YtlegmefnaghloaaWShare
import Derived.Test.YtlegmefnaghloaaWN
import Derived.Test.YtlegmefnaghloaaWFootNe
import Derived.Test.YtlegmefnaghloaaWAt
import Derived.Test.YtlegmefnaghloaaWEqStruct
import Derived.Test.YtlegmefnaghloaaWRepsOne
import Derived.Test.YtlegmefnaghloaaWInv
import Derived.Test.YtlegmefnaghloaaWInvWords
import Derived.Test.YtlegmefnaghloaaWGuard
import Derived.Test.YtlegmefnaghloaaWNEv
import Derived.Test.YtlegmefnaghloaaWMore
namespace Go.Proofs.Ytlegmefnaghloaa.Hd
end Go.Proofs.Ytlegmefnaghloaa.Hd
namespace Go.Proofs.Ytlegmefnaghloaa.P
open Go.RowKit Go.Proofs.Ytlegmefnaghloaa.Hd Go.Proofs.YtlegmefnaghloaaW.PrintWords Go.Proofs.YtlegmefnaghloaaW.PrintLast Go.Proofs.YtlegmefnaghloaaW.PrintMore
attribute [local go_sem] max2_int min2_int max_two min_two max_three min_three max_four min_four   -- for this text's walks alone
set_option linter.unusedVariables false
set_option linter.unusedSimpArgs false



def errW : Option Int → Value
  | none => .nilIface
  | some c => .iface 0 (.int .i64 c)
theorem errW_none : errW none = .nilIface := rfl
theorem errW_some (c : Int) : errW (some c) = .iface 0 (.int .i64 c) := rfl

theorem info3 : (Try.prog.info? 3).map (fun i => (i.zero, i.size, i.bytes)) = some (some (.int .i64 0), 1, 8) := by kernel_rfl
theorem info4 : (Try.prog.info? 4).map (fun i => (i.zero, i.size, i.bytes)) = some (some (.bool false), 1, 1) := by kernel_rfl
-- the values' own types

end Go.Proofs.Ytlegmefnaghloaa.P
