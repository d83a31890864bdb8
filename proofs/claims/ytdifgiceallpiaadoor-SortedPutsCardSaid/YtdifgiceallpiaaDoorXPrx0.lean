/- Words of this seat. -/
import Derived.Test.YtdifgiceallpiaaDoorProg
import Derived.Below
import Derived.Deep.Draws
import Derived.Deep.AppendLies
import Derived.Maps.AppendAt
import Derived.OwnWalk
import Derived.Laws.BytesArg
import Derived.Laws.MakeOwn
import Derived.Laws.OwnMore
import Derived.Deep.OwnRows
import Derived.Tactics
import Derived.Lib.ConvBytes
import Derived.Laws.Slices
import Derived.WalkKit
import Derived.KernelRfl
import Derived.RowKit3
import Derived.Deep.LoopGhost
import Derived.Deep.QuietTactic
import Derived.BigQuiet
import Derived.WideLaws
import Derived.Deep.DeepCutAuto
import Derived.Deep.CutBlock
import Derived.Deep.RegionHeld3
import Derived.Laws.Rows
import Derived.Lib.AppendStr
import Derived.ArgAppend
import Derived.Laws.IdiomCopy
import Derived.OrdersHeld
import Derived.Laws.BitsLemmas
import Derived.RowKit
import Derived.WalkMore
import Derived.Test.YtdifgiceallpiaaDoorXWWords
import Derived.Test.YtdifgiceallpiaaDoorXWTab
import Derived.Laws.StructEq
set_option linter.unusedVariables false
set_option linter.unusedSimpArgs false
set_option linter.unusedSectionVars false
-- Laid by this session's driver (wip/tools/myprint.py) over the kit's print program.
namespace Go.Proofs.YtdifgiceallpiaaDoor.Pa
end Go.Proofs.YtdifgiceallpiaaDoor.Pa
namespace Go.Proofs.YtdifgiceallpiaaDoor.Hd
end Go.Proofs.YtdifgiceallpiaaDoor.Hd
namespace Go.Proofs.YtdifgiceallpiaaDoor.Pr
open Go.RowKit Go.Proofs.YtdifgiceallpiaaDoor.Pa Go.Proofs.YtdifgiceallpiaaDoor.Hd Go.Proofs.YtdifgiceallpiaaDoorW.PrintWords Go.Proofs.YtdifgiceallpiaaDoorW.PrintLast Go.Proofs.YtdifgiceallpiaaDoorW.PrintMore
attribute [local go_sem] za9 za8 zbi zbj za0 za1 zba zbb   -- for this text's walks alone



def errW : Option Int → Value
  | none => .nilIface
  | some c => .iface 0 (.int .i64 c)
theorem info3 : (Tryd.prog.info? 3).map (fun i => (i.zero, i.size, i.bytes)) = some (some (.int .i64 0), 1, 8) := by kernel_rfl
theorem info4 : (Tryd.prog.info? 4).map (fun i => (i.zero, i.size, i.bytes)) = some (some (.bool false), 1, 1) := by kernel_rfl
theorem info5 : (Tryd.prog.info? 5).map (fun i => (i.zero, i.size, i.bytes)) = some (some (.int .u8 0), 1, 1) := by kernel_rfl
-- the values' own types

end Go.Proofs.YtdifgiceallpiaaDoor.Pr
