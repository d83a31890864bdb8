-- Laid by this session's driver (wip/tools/myprint.py) over the kit's print program.
import Derived.Test.YtjjfkgibeajphaaProg
import Derived.Below
import Derived.Deep.Draws
import Derived.Deep.AppendLies
import Derived.Maps.AppendAt
import Derived.OwnWalk
import Derived.Laws.BytesArg
import Derived.Laws.MakeOwn
import Derived.Laws.OwnMore
import Derived.Deep.OwnRows
import Derived.Tactics
import Derived.Lib.ConvBytes
import Derived.Laws.Slices
import Derived.WalkKit
import Derived.KernelRfl
import Derived.RowKit3
import Derived.Deep.LoopGhost
import Derived.Deep.QuietTactic
import Derived.BigQuiet
import Derived.WideLaws
import Derived.Deep.DeepCutAuto
import Derived.Deep.CutBlock
import Derived.Deep.RegionHeld3
import Derived.Laws.Rows
import Derived.Lib.AppendStr
import Derived.ArgAppend
import Derived.Laws.IdiomCopy
import Derived.OrdersHeld
import Derived.Laws.BitsLemmas
import Derived.RowKit
import Derived.WalkMore
import Derived.Test.YtjjfkgibeajphaaWWords
import Derived.Test.YtjjfkgibeajphaaWLast
import Derived.Test.YtjjfkgibeajphaaWTab
import Derived.Test.YtjjfkgibeajphaaWFour
import Derived.Test.YtjjfkgibeajphaaWQPut
import Derived.Test.YtjjfkgibeajphaaWApart
import Derived.Test.YtjjfkgibeajphaaWArr
import Derived.Test.YtjjfkgibeajphaaWZeros
import Derived.Test.YtjjfkgibeajphaaWFoot
import Derived.Test.YtjjfkgibeajphaaWKept
import Derived.Test.YtjjfkgibeajphaaWShare
import Derived.Test.YtjjfkgibeajphaaWN
import Derived.Test.YtjjfkgibeajphaaWFootNe
import Derived.Test.YtjjfkgibeajphaaWAt
import Derived.Test.YtjjfkgibeajphaaWEqStruct
import Derived.Test.YtjjfkgibeajphaaWRepsOne
import Derived.Test.YtjjfkgibeajphaaWInv
import Derived.Test.YtjjfkgibeajphaaWInvWords
import Derived.Test.YtjjfkgibeajphaaWGuard
import Derived.Test.YtjjfkgibeajphaaWNEv
import Derived.Test.YtjjfkgibeajphaaWMore
namespace Go.Proofs.Ytjjfkgibeajphaa.Pa
end Go.Proofs.Ytjjfkgibeajphaa.Pa
namespace Go.Proofs.Ytjjfkgibeajphaa.Hd
end Go.Proofs.Ytjjfkgibeajphaa.Hd
namespace Go.Proofs.Ytjjfkgibeajphaa.P
open Go.RowKit Go.Proofs.Ytjjfkgibeajphaa.Pa Go.Proofs.Ytjjfkgibeajphaa.Hd Go.Proofs.YtjjfkgibeajphaaW.PrintWords Go.Proofs.YtjjfkgibeajphaaW.PrintLast Go.Proofs.YtjjfkgibeajphaaW.PrintMore
attribute [local go_sem] max2_int min2_int max_two min_two max_three min_three max_four min_four   -- for this text's walks alone
set_option linter.unusedVariables false
set_option linter.unusedSimpArgs false



def errW : Option Int → Value
  | none => .nilIface
  | some c => .iface 0 (.int .i64 c)
theorem errW_none : errW none = .nilIface := rfl
theorem errW_some (c : Int) : errW (some c) = .iface 0 (.int .i64 c) := rfl

theorem info3 : (Try.prog.info? 3).map (fun i => (i.zero, i.size, i.bytes)) = some (some (.int .i64 0), 1, 8) := by kernel_rfl
-- the values' own types

end Go.Proofs.Ytjjfkgibeajphaa.P
