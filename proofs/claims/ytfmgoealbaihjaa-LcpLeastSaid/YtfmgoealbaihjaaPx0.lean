-- Laid by this session's driver (wip/tools/myprint.py) over the kit's print program.
import Derived.Test.YtfmgoealbaihjaaProg
import Derived.Below
import Derived.Deep.Draws
import Derived.Deep.AppendLies
import Derived.Maps.AppendAt
import Derived.OwnWalk
import Derived.Laws.BytesArg
import Derived.Laws.MakeOwn
import Derived.Laws.OwnMore
import Derived.Deep.OwnRows
import Derived.Tactics
import Derived.Lib.ConvBytes
import Derived.Laws.Slices
import Derived.WalkKit
import Derived.KernelRfl
import Derived.RowKit3
import Derived.Deep.LoopGhost
import Derived.Deep.QuietTactic
import Derived.BigQuiet
import Derived.WideLaws
import Derived.Deep.DeepCutAuto
import Derived.Deep.CutBlock
import Derived.Deep.RegionHeld3
import Derived.Laws.Rows
import Derived.Lib.AppendStr
import Derived.ArgAppend
import Derived.Laws.IdiomCopy
import Derived.OrdersHeld
import Derived.Laws.BitsLemmas
import Derived.RowKit
import Derived.WalkMore
import Derived.Test.YtfmgoealbaihjaaWWords
import Derived.Test.YtfmgoealbaihjaaWLast
import Derived.Test.YtfmgoealbaihjaaWTab
import Derived.Test.YtfmgoealbaihjaaWFour
import Derived.Test.YtfmgoealbaihjaaWQPut
import Derived.Test.YtfmgoealbaihjaaWApart
import Derived.Test.YtfmgoealbaihjaaWArr
import Derived.Test.YtfmgoealbaihjaaWZeros
import Derived.Test.YtfmgoealbaihjaaWFoot
import Derived.Test.YtfmgoealbaihjaaWKept
import Derived.Test.YtfmgoealbaihjaaWShare
import Derived.Test.YtfmgoealbaihjaaWN
import Derived.Test.YtfmgoealbaihjaaWFootNe
import Derived.Test.YtfmgoealbaihjaaWAt
import Derived.Test.YtfmgoealbaihjaaWEqStruct
import Derived.Test.YtfmgoealbaihjaaWRepsOne
import Derived.Test.YtfmgoealbaihjaaWInv
import Derived.Test.YtfmgoealbaihjaaWInvWords
import Derived.Test.YtfmgoealbaihjaaWGuard
import Derived.Test.YtfmgoealbaihjaaWNEv
import Derived.Test.YtfmgoealbaihjaaWMore
namespace Go.Proofs.Ytfmgoealbaihjaa.Hd
end Go.Proofs.Ytfmgoealbaihjaa.Hd
namespace Go.Proofs.Ytfmgoealbaihjaa.P
open Go.RowKit Go.Proofs.Ytfmgoealbaihjaa.Hd Go.Proofs.YtfmgoealbaihjaaW.PrintWords Go.Proofs.YtfmgoealbaihjaaW.PrintLast Go.Proofs.YtfmgoealbaihjaaW.PrintMore
attribute [local go_sem] max2_int min2_int max_two min_two max_three min_three max_four min_four   -- for this text's walks alone
set_option linter.unusedVariables false
set_option linter.unusedSimpArgs false



def errW : Option Int → Value
  | none => .nilIface
  | some c => .iface 0 (.int .i64 c)
theorem errW_none : errW none = .nilIface := rfl
theorem errW_some (c : Int) : errW (some c) = .iface 0 (.int .i64 c) := rfl

theorem info3 : (Try.prog.info? 3).map (fun i => (i.zero, i.size, i.bytes)) = some (some (.int .i64 0), 1, 8) := by kernel_rfl
-- the values' own types

end Go.Proofs.Ytfmgoealbaihjaa.P
