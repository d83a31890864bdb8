-- Laid by this session's driver (wip/tools/myprint.py) over the kit's print program.
import Derived.Test.YtnbnfpmbdnopaaaProg
import Derived.Below
import Derived.Deep.Draws
import Derived.Deep.AppendLies
import Derived.Maps.AppendAt
import Derived.OwnWalk
import Derived.Laws.BytesArg
import Derived.Laws.MakeOwn
import Derived.Laws.OwnMore
import Derived.Deep.OwnRows
import Derived.Tactics
import Derived.Lib.ConvBytes
import Derived.Laws.Slices
import Derived.WalkKit
import Derived.KernelRfl
import Derived.RowKit3
import Derived.Deep.LoopGhost
import Derived.Deep.QuietTactic
import Derived.BigQuiet
import Derived.WideLaws
import Derived.Deep.DeepCutAuto
import Derived.Deep.CutBlock
import Derived.Deep.RegionHeld3
import Derived.Laws.Rows
import Derived.Lib.AppendStr
import Derived.ArgAppend
import Derived.Laws.IdiomCopy
import Derived.OrdersHeld
import Derived.Laws.BitsLemmas
import Derived.RowKit
import Derived.WalkMore
import Derived.Test.YtnbnfpmbdnopaaaWWords
import Derived.Test.YtnbnfpmbdnopaaaWLast
import Derived.Test.YtnbnfpmbdnopaaaWTab
import Derived.Test.YtnbnfpmbdnopaaaWFour
import Derived.Test.YtnbnfpmbdnopaaaWQPut
import Derived.Test.YtnbnfpmbdnopaaaWApart
import Derived.Test.YtnbnfpmbdnopaaaWArr
import Derived.Test.YtnbnfpmbdnopaaaWZeros
import Derived.Test.YtnbnfpmbdnopaaaWFoot
import Derived.Test.YtnbnfpmbdnopaaaWKept
import Derived.Test.YtnbnfpmbdnopaaaWShare
import Derived.Test.YtnbnfpmbdnopaaaWN
import Derived.Test.YtnbnfpmbdnopaaaWFootNe
import Derived.Test.YtnbnfpmbdnopaaaWAt
import Derived.Test.YtnbnfpmbdnopaaaWEqStruct
import Derived.Test.YtnbnfpmbdnopaaaWRepsOne
import Derived.Test.YtnbnfpmbdnopaaaWInv
import Derived.Test.YtnbnfpmbdnopaaaWInvWords
import Derived.Test.YtnbnfpmbdnopaaaWGuard
import Derived.Test.YtnbnfpmbdnopaaaWNEv
import Derived.Test.YtnbnfpmbdnopaaaWMore
namespace Go.Proofs.Ytnbnfpmbdnopaaa.P
open Go.RowKit Go.Proofs.YtnbnfpmbdnopaaaW.PrintWords Go.Proofs.YtnbnfpmbdnopaaaW.PrintLast Go.Proofs.YtnbnfpmbdnopaaaW.PrintMore
attribute [local go_sem] max2_int min2_int max_two min_two max_three min_three max_four min_four   -- for this text's walks alone
set_option linter.unusedVariables false
set_option linter.unusedSimpArgs false



def errW : Option Int → Value
  | none => .nilIface
  | some c => .iface 0 (.int .i64 c)
theorem errW_none : errW none = .nilIface := rfl
theorem errW_some (c : Int) : errW (some c) = .iface 0 (.int .i64 c) := rfl

theorem info3 : (Try.prog.info? 3).map (fun i => (i.zero, i.size, i.bytes)) = some (some (.int .i64 0), 1, 8) := by kernel_rfl
-- the values' own types

end Go.Proofs.Ytnbnfpmbdnopaaa.P
