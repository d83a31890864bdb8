/- The plain law of a decoder that is none. -/
import Derived.Test.YtfijcedckpkpfaaHRg9
open Go Go.RowKit
set_option linter.unusedVariables false
set_option linter.unusedSimpArgs false
set_option linter.unusedSectionVars false
namespace Go.Proofs.Ytfijcedckpkpfaa.Pure
theorem RangerNone (p : Int) (h : (Lit.int .i64 p).wf = true) : true = true := rfl
end Go.Proofs.Ytfijcedckpkpfaa.Pure
