/- suffix: the examples. -/
import Derived.Test.YtchieiajpocpmaaPx2
set_option linter.unusedVariables false
set_option linter.unusedSimpArgs false
set_option linter.unusedSectionVars false
namespace Go.Proofs.Ytchieiajpocpmaa.Pure
open Go Go.RowKit Go.Proofs.YtchieiajpocpmaaW.PrintWords Go.Proofs.YtchieiajpocpmaaW.PrintMore Go.Proofs.Ytchieiajpocpmaa.P
set_option maxRecDepth 100000 in
theorem awake_true : gladstonelaw19_awake.f 40 = some true := by decide +kernel
theorem awake_ev : Ev (fun k => gladstonelaw19_awake.f k) true := Ev.of (fun k => gladstonelaw19_awake.mono k) awake_true
end Go.Proofs.Ytchieiajpocpmaa.Pure
