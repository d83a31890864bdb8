-- Laid by this session's driver (wip/tools/myprint.py) over the kit's print program.
import Derived.Test.YtdejkajdlflabaaProg
import Derived.Below
import Derived.Deep.Draws
import Derived.Deep.AppendLies
import Derived.Maps.AppendAt
import Derived.OwnWalk
import Derived.Laws.BytesArg
import Derived.Laws.MakeOwn
import Derived.Laws.OwnMore
import Derived.Deep.OwnRows
import Derived.Tactics
import Derived.Lib.ConvBytes
import Derived.Laws.Slices
import Derived.WalkKit
import Derived.KernelRfl
import Derived.RowKit3
import Derived.Deep.LoopGhost
import Derived.Deep.QuietTactic
import Derived.BigQuiet
import Derived.WideLaws
import Derived.Deep.DeepCutAuto
import Derived.Deep.CutBlock
import Derived.Deep.RegionHeld3
import Derived.Laws.Rows
import Derived.Lib.AppendStr
import Derived.ArgAppend
import Derived.Laws.IdiomCopy
import Derived.OrdersHeld
import Derived.Laws.BitsLemmas
import Derived.RowKit
import Derived.WalkMore
import Derived.Test.YtdejkajdlflabaaWWords
import Derived.Test.YtdejkajdlflabaaWLast
import Derived.Test.YtdejkajdlflabaaWTab
import Derived.Test.YtdejkajdlflabaaWFour
import Derived.Test.YtdejkajdlflabaaWQPut
import Derived.Test.YtdejkajdlflabaaWApart
import Derived.Test.YtdejkajdlflabaaWArr
import Derived.Test.YtdejkajdlflabaaWZeros
import Derived.Test.YtdejkajdlflabaaWFoot
import Derived.Test.YtdejkajdlflabaaWKept
import Derived.Test.YtdejkajdlflabaaWShare
import Derived.Test.YtdejkajdlflabaaWN
import Derived.Test.YtdejkajdlflabaaWFootNe
import Derived.Test.YtdejkajdlflabaaWAt
import Derived.Test.YtdejkajdlflabaaWEqStruct
import Derived.Test.YtdejkajdlflabaaWRepsOne
import Derived.Test.YtdejkajdlflabaaWInv
import Derived.Test.YtdejkajdlflabaaWInvWords
import Derived.Test.YtdejkajdlflabaaWGuard
import Derived.Test.YtdejkajdlflabaaWNEv
import Derived.Test.YtdejkajdlflabaaWMore
namespace Go.Proofs.Ytdejkajdlflabaa.Hd
end Go.Proofs.Ytdejkajdlflabaa.Hd
namespace Go.Proofs.Ytdejkajdlflabaa.Pa
open Go.RowKit Go.Proofs.Ytdejkajdlflabaa.Hd Go.Proofs.YtdejkajdlflabaaW.PrintWords Go.Proofs.YtdejkajdlflabaaW.PrintLast Go.Proofs.YtdejkajdlflabaaW.PrintMore
attribute [local go_sem] max2_int min2_int max_two min_two max_three min_three max_four min_four   -- for this text's walks alone
set_option linter.unusedVariables false
set_option linter.unusedSimpArgs false



def errW : Option Int → Value
  | none => .nilIface
  | some c => .iface 0 (.int .i64 c)
theorem errW_none : errW none = .nilIface := rfl
theorem errW_some (c : Int) : errW (some c) = .iface 0 (.int .i64 c) := rfl

-- the values' own types

end Go.Proofs.Ytdejkajdlflabaa.Pa
