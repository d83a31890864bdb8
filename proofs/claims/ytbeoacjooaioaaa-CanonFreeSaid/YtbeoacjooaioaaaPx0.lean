-- Laid by this session's driver (wip/tools/myprint.py) over the kit's print program.
import Derived.Test.YtbeoacjooaioaaaProg
import Derived.Below
import Derived.Deep.Draws
import Derived.Deep.AppendLies
import Derived.Maps.AppendAt
import Derived.OwnWalk
import Derived.Laws.BytesArg
import Derived.Laws.MakeOwn
import Derived.Laws.OwnMore
import Derived.Deep.OwnRows
import Derived.Tactics
import Derived.Lib.ConvBytes
import Derived.Laws.Slices
import Derived.WalkKit
import Derived.KernelRfl
import Derived.RowKit3
import Derived.Deep.LoopGhost
import Derived.Deep.QuietTactic
import Derived.BigQuiet
import Derived.WideLaws
import Derived.Deep.DeepCutAuto
import Derived.Deep.CutBlock
import Derived.Deep.RegionHeld3
import Derived.Laws.Rows
import Derived.Lib.AppendStr
import Derived.ArgAppend
import Derived.Laws.IdiomCopy
import Derived.OrdersHeld
import Derived.Laws.BitsLemmas
import Derived.RowKit
import Derived.WalkMore
import Derived.Test.YtbeoacjooaioaaaWWords
import Derived.Test.YtbeoacjooaioaaaWLast
import Derived.Test.YtbeoacjooaioaaaWTab
import Derived.Test.YtbeoacjooaioaaaWFour
import Derived.Test.YtbeoacjooaioaaaWQPut
import Derived.Test.YtbeoacjooaioaaaWApart
import Derived.Test.YtbeoacjooaioaaaWArr
import Derived.Test.YtbeoacjooaioaaaWZeros
import Derived.Test.YtbeoacjooaioaaaWFoot
import Derived.Test.YtbeoacjooaioaaaWKept
import Derived.Test.YtbeoacjooaioaaaWShare
import Derived.Test.YtbeoacjooaioaaaWN
import Derived.Test.YtbeoacjooaioaaaWFootNe
import Derived.Test.YtbeoacjooaioaaaWAt
import Derived.Test.YtbeoacjooaioaaaWEqStruct
import Derived.Test.YtbeoacjooaioaaaWRepsOne
import Derived.Test.YtbeoacjooaioaaaWInv
import Derived.Test.YtbeoacjooaioaaaWInvWords
import Derived.Test.YtbeoacjooaioaaaWGuard
import Derived.Test.YtbeoacjooaioaaaWNEv
import Derived.Test.YtbeoacjooaioaaaWMore
namespace Go.Proofs.Ytbeoacjooaioaaa.Hd
end Go.Proofs.Ytbeoacjooaioaaa.Hd
namespace Go.Proofs.Ytbeoacjooaioaaa.P
open Go.RowKit Go.Proofs.Ytbeoacjooaioaaa.Hd Go.Proofs.YtbeoacjooaioaaaW.PrintWords Go.Proofs.YtbeoacjooaioaaaW.PrintLast Go.Proofs.YtbeoacjooaioaaaW.PrintMore
attribute [local go_sem] max2_int min2_int max_two min_two max_three min_three max_four min_four   -- for this text's walks alone
set_option linter.unusedVariables false
set_option linter.unusedSimpArgs false



def errW : Option Int → Value
  | none => .nilIface
  | some c => .iface 0 (.int .i64 c)
theorem errW_none : errW none = .nilIface := rfl
theorem errW_some (c : Int) : errW (some c) = .iface 0 (.int .i64 c) := rfl

theorem info3 : (Try.prog.info? 3).map (fun i => (i.zero, i.size, i.bytes)) = some (some (.int .i64 0), 1, 8) := by kernel_rfl
-- the values' own types

end Go.Proofs.Ytbeoacjooaioaaa.P
