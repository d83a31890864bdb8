/- The plain laws of chapter 1 (bits that are written). -/
import Derived.Test.YtbbmnaiofdjacaaHNone1
set_option linter.unusedVariables false
set_option linter.unusedSimpArgs false
set_option linter.unusedSectionVars false
namespace Go.Proofs.Ytbbmnaiofdjacaa.Pure
theorem BitwNone : true = true := rfl
end Go.Proofs.Ytbbmnaiofdjacaa.Pure
