/- bwt: the examples. -/
import Derived.Test.YtnafgifcidhdkaaPx4
set_option linter.unusedVariables false
set_option linter.unusedSimpArgs false
set_option linter.unusedSectionVars false
namespace Go.Proofs.Ytnafgifcidhdkaa.Pure
open Go Go.RowKit Go.Proofs.Ytnafgifcidhdkaa.P Go.Proofs.YtnafgifcidhdkaaW.PrintWords
set_option maxRecDepth 100000 in
theorem awake_true : gladstonelaw48_awake.f 40 = some true := by decide +kernel
theorem awake_ev : Ev (fun k => gladstonelaw48_awake.f k) true := Ev.of (fun k => gladstonelaw48_awake.mono k) awake_true
end Go.Proofs.Ytnafgifcidhdkaa.Pure
